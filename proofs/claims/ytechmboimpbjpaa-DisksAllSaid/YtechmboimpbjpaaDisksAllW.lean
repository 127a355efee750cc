/-
  Package drydocklaw03 by its own text: the walk of DisksAll.
-/
import Derived.Test.YtechmboimpbjpaaDFam
import Derived.Outline
import Derived.Deep.RegionHeld3
namespace Go.Proofs.Ytechmboimpbjpaa
open Go Go.RowKit

namespace Dk
def all64 : Nat := 18446744073709551615
theorem all64_bit (i : Nat) : all64.testBit (i % 64) = true := by
  have h : i % 64 < 64 := Nat.mod_lt _ (by decide)
  have e : all64 = 2 ^ 64 - 1 := rfl
  rw [e, Nat.testBit_two_pow_sub_one]; simpa using h
/-- with all kept there is left what is seen -/
def Whole (D : Disk) : Prop := D.sure.length = D.seen.length ∧ ∀ torn : Int, (torn < 0 ∨ (D.waits.length : Int) ≤ torn) → failed all64 torn D.sure 0 D.waits = D.seen
theorem whole_sync (D : Disk) : Whole (sync D) := ⟨rfl, fun _ _ => rfl⟩
theorem whole_write {D : Disk} (h : Whole D) (n : Int) (b : List Nat) : Whole (writeA D n b) := by
  unfold writeA
  split
  · refine ⟨by simp [write, h.1], fun torn ht => ?_⟩
    have hl : (write D n.toNat b).waits.length = D.waits.length + 1 := by simp [write]
    rw [hl] at ht
    show failed all64 torn D.sure 0 (D.waits ++ [⟨n.toNat, pad b, 0⟩]) = D.seen.set n.toNat ⟨pad b, 0⟩
    rw [failed_snoc, h.2 torn (by omega), failStep, if_neg (by omega), if_pos (all64_bit _)]
    simp [upd, keptS]
  · exact h
theorem failed_none (torn : Int) (ht : torn < 0) : ∀ (ws : List Wr) (l : List Sec) (i : Nat), failed 0 torn l i ws = l
  | [], _, _ => rfl
  | y :: r, l, i => by
    have e : failStep 0 torn l i y = l := by
      rw [failStep, if_neg (by omega), if_neg (by simp)]
    rw [failed, e]; exact failed_none torn ht r l (i + 1)
theorem write_seen (D : Disk) (n : Int) (b : List Nat) : (writeA D n b).seen.length = D.seen.length := by
  unfold writeA; split
  · simp [write]
  · rfl
theorem write_sure (D : Disk) (n : Int) (b : List Nat) : (writeA D n b).sure = D.sure := by
  unfold writeA; split <;> rfl
theorem write_waits (D : Disk) (n : Int) (b : List Nat) : (writeA D n b).waits.length = if writeR D n b = 0 then D.waits.length + 1 else D.waits.length := by
  unfold writeA writeR
  split
  · simp [write]
  · simp
theorem writeR_01 (D : Disk) (n : Int) (b : List Nat) : writeR D n b = 0 ∨ writeR D n b = 1 := by
  unfold writeR; split
  · exact Or.inl rfl
  · exact Or.inr rfl
end Dk

set_option maxRecDepth 100000 in
set_option maxHeartbeats 4000000 in
theorem disksAll_walk (w : World) (ad : Option Addr) (n cap : Nat) (acts : List Deed) (hn : acts.length = n) (hmax : (n : Int) ≤ 9223372036854775807) (h : IsDeeds w ad acts)
    (ad' : Option Addr) (n' cap' : Nat) (acts' : List Deed) (hn' : acts'.length = n') (hmax' : (n' : Int) ≤ 9223372036854775807) (h' : IsDeeds w ad' acts') :
    Calls Try.prog 9 #[.slice ad n cap, .slice ad' n' cap'] w (LawPost w) := by
  have H := Lib.hid h; clear h
  have HN := Lib.hid hn; clear hn
  have H' := Lib.hid h'; clear h'
  have HN' := Lib.hid hn'; clear hn'
  go_enter Try.func9, Try.ntmps9
  go_wp2_with fail
  refine (alive_is w).mono ?_
  rintro e w1 ⟨rfl, T1⟩
  go_wp2_with fail
  refine (great_any w1 ad n cap acts HN.out hmax (H.out.touch T1)).mono ?_
  rintro e w' ⟨rfl, rfl⟩
  cases hg : great acts with
  | true =>
    clear hg
    go_wp2_with fail
    refine (alive_is w1).mono ?_
    rintro e w2 ⟨rfl, t2⟩
    go_wp2
    go_ret
    exact ⟨rfl, T1.trans t2⟩
  | false =>
  have h150 : n ≤ 150 := by rw [← HN.out]; exact great_not hg
  clear hg
  go_wp2_with fail
  refine (great_any w1 ad' n' cap' acts' HN'.out hmax' (H'.out.touch T1)).mono ?_
  rintro e w' ⟨rfl, rfl⟩
  cases hg : great acts' with
  | true =>
    clear hg
    go_wp2_with fail
    refine (alive_is w1).mono ?_
    rintro e w2 ⟨rfl, t2⟩
    go_wp2
    go_ret
    exact ⟨rfl, T1.trans t2⟩
  | false =>
  have h150' : n' ≤ 150 := by rw [← HN'.out]; exact great_not hg
  clear hg
  have F1 : Fam w w1 [] := Fam.nil w w1 T1
  go_wp2_with fail
  refine (F1.does ad n cap acts HN.out h150 (H.out.touch T1)).mono ?_
  rintro e w2 ⟨d, rfl, F2⟩
  have F2 : Fam w w2 [(d, Dk.does acts)] := F2
  clear F1 T1
  go_wp2_with fail
  refine (F2.sync 0 rfl).mono ?_
  rintro e w3 ⟨rfl, F3⟩
  have F3 : Fam w w3 [(d, Dk.sync (Dk.does acts))] := F3
  clear F2
  go_wp2_with fail
  refine (F3.does ad n cap acts HN.out h150 (H.out.touch F3.end)).mono ?_
  rintro e w4 ⟨x, rfl, F4⟩
  have F4 : Fam w w4 [(d, Dk.sync (Dk.does acts)), (x, Dk.does acts)] := F4
  clear F3
  go_wp2
  go_loopg [7, 8] n' (fun g s7 s8 wr => ∃ (k m : Nat) (D : Dk.Disk), k + g = n' ∧ s8 = .int .i64 ((k : Nat) : Int) ∧ s7 = .int .i64 ((m : Nat) : Int) ∧ m ≤ k ∧ Hid (D.waits.length = m) ∧ Hid (Dk.Whole D) ∧ Hid (D.sure = (Dk.does acts).seen) ∧ Fam w wr [(d, D), (x, Dk.does acts)])
  case atStart => exact ⟨0, 0, Dk.sync (Dk.does acts), by omega, rfl, rfl, Nat.le_refl _, rfl, Dk.whole_sync _, rfl, F4⟩
  case round =>
    clear F4
    obtain ⟨k, m, D, hkg, rfl, rfl, hmk, Hm, Hwh, Hsu, F⟩ := hrel
    cases gk with
    | zero =>
      obtain rfl : k = n' := by omega
      have hse : Hid (D.seen.length = 8) := by
        show _ = _
        rw [← Hwh.out.1, Hsu.out, Dk.does_seen]
      have hdw : Hid ((Dk.does acts).seen.length = 8) := Dk.does_seen acts
      go_wp2_with fail
      refine ((F.st 0 rfl).waits m Hm.out).mono ?_
      rintro e w' ⟨rfl, rfl⟩
      go_wp2_with fail
      refine (F.left 0 rfl 0 (-1) (by decide) (by rw [Hm.out]; omega)).mono ?_
      rintro e w5 ⟨y, rfl, F5⟩
      have F5 : Fam w w5 [(d, D), (x, Dk.does acts), (y, Dk.fail D 0 (-1))] := F5
      have e1 : Hid ((Dk.fail D 0 (-1)).seen = (Dk.does acts).seen) := by
        show Dk.failed 0 (-1) D.sure 0 D.waits = _
        rw [Dk.failed_none (-1) (by decide), Hsu.out]
      clear F
      go_wp2_with fail
      refine ((F5.st 2 rfl).alike (F5.st 1 rfl) (by rw [e1.out]) (fun _ _ => by rw [e1.out])).mono ?_
      rintro e w6 ⟨rfl, t6⟩
      have F6 := F5.no t6
      clear F5 t6
      go_wp2_with fail
      refine (F6.left 0 rfl Dk.all64 (-1) (by decide) (by rw [Hm.out]; omega)).mono ?_
      rintro e w7 ⟨z, rfl, F7⟩
      have F7 : Fam w w7 [(d, D), (x, Dk.does acts), (y, Dk.fail D 0 (-1)), (z, Dk.fail D Dk.all64 (-1))] := F7
      have e2 : Hid ((Dk.fail D Dk.all64 (-1)).seen = D.seen) := Hwh.out.2 (-1) (Or.inl (by decide))
      clear F6
      go_wp2_with fail
      refine ((F7.st 3 rfl).alike (F7.st 0 rfl) (by rw [e2.out]) (fun _ _ => by rw [e2.out])).mono ?_
      rintro e w8 ⟨rfl, t8⟩
      have F8 := F7.no t8
      clear F7 t8
      go_wp2_with fail
      refine (F8.left 0 rfl Dk.all64 (m : Int) (by decide) (by rw [Hm.out]; omega)).mono ?_
      rintro e w9 ⟨v, rfl, F9⟩
      have F9 : Fam w w9 [(d, D), (x, Dk.does acts), (y, Dk.fail D 0 (-1)), (z, Dk.fail D Dk.all64 (-1)), (v, Dk.fail D Dk.all64 (m : Int))] := F9
      have e3 : Hid ((Dk.fail D Dk.all64 (m : Int)).seen = D.seen) := Hwh.out.2 (m : Int) (Or.inr (by rw [Hm.out]; omega))
      clear F8
      go_wp2_with fail
      refine ((F9.st 4 rfl).alike (F9.st 0 rfl) (by rw [e3.out]) (fun _ _ => by rw [e3.out])).mono ?_
      rintro e w10 ⟨rfl, t10⟩
      have F10 := F9.no t10
      clear F9 t10
      go_wp2
      go_ret
      exact ⟨rfl, F10.end⟩
    | succ g =>
      have hlt : (k : Int) < n' := by omega
      obtain ⟨a, ha⟩ : ∃ a, acts'[k]? = some a := ⟨_, List.getElem?_eq_getElem (by have := HN'.out; omega)⟩
      obtain ⟨c, o, rfl, hd⟩ := (H'.out.touch F.end) k a ha
      have hkind := hd.kind
      have hnn := hd.n
      have hl := hd.l
      have hk8 := hd.k8
      have Hd := Lib.hid hd
      have hm6 : Hid (D.waits.length ≤ 1000000) := by show _ ≤ _; rw [Hm.out]; omega
      have HS : Hid (∀ wx, Touch No w wx → (wx.cell? ⟨c, o + k * 5, none⟩ = some (.int .u8 (a.kind : Nat)) ∧ wx.cell? ⟨c, o + k * 5 + 1, none⟩ = some (.int .i64 a.n) ∧ wx.cell? ⟨c, o + k * 5 + 3, none⟩ = some (.slice a.a a.xs.length a.cap))) := fun wx t => by
        obtain ⟨c', o', e', hd'⟩ := (H'.out.touch t) k a ha
        cases e'
        exact ⟨hd'.kind, hd'.n, hd'.l⟩
      clear hd ha
      obtain ⟨q, hq⟩ : ∃ q, a.kind % 9 = q := ⟨_, rfl⟩
      have hkq : ((a.kind : Nat) : Int) % 9 = (q : Nat) := by omega
      clear hq
      by_cases hq4 : q < 4
      · have hq4' : decide ((q : Int) < 4) = true := by simp; omega
        have hdt : decide (Int.tmod (a.kind : Int) 9 < 4) = true := by
          rw [Int.tmod_eq_emod_of_nonneg (by omega), hkq]; exact hq4'
        clear hq4
        have W := (F.no (Touch.refl No wr).drew).write 0 rfl a.n a.a a.xs.length a.cap a.xs rfl Hd.out.x8 (Hd.out.rd.no (Touch.refl No wr).drew) hm6.out
        have hS : wr.cell? ⟨c, o + k * 5, none⟩ = some (.int .u8 (a.kind : Nat)) ∧ wr.cell? ⟨c, o + k * 5 + 1, none⟩ = some (.int .i64 a.n) ∧ wr.cell? ⟨c, o + k * 5 + 3, none⟩ = some (.slice a.a a.xs.length a.cap) := ⟨hkind, hnn, hl⟩
        rcases Dk.writeR_01 D a.n a.xs with hr | hr
        · rw [hr] at W
          have HW := Lib.hid W
          have Hr := Lib.hid hr
          clear W hr
          go_wp2_with fail
          go_region_held3 (fun w' => w'.cell? ⟨c, o + k * 5, none⟩ = some (.int .u8 (a.kind : Nat)) ∧ w'.cell? ⟨c, o + k * 5 + 1, none⟩ = some (.int .i64 a.n) ∧ w'.cell? ⟨c, o + k * 5 + 3, none⟩ = some (.slice a.a a.xs.length a.cap)) (first | exact hS | exact HS.out _ (Fam.end F2)) ((go_at_call 13; refine (HW.out).mono ?_; rintro e w2 ⟨rfl, F2⟩))
          go_wp2
          go_roundg g
          case measure => omega
          case rel => exact ⟨k + 1, m + 1, Dk.writeA D a.n a.xs, by omega, by go_num, by go_num, by omega, by show _ = _; rw [Dk.write_waits, if_pos Hr.out, Hm.out], Dk.whole_write Hwh.out _ _, by show _ = _; rw [Dk.write_sure]; exact Hsu.out, F2⟩
        · rw [hr] at W
          have HW := Lib.hid W
          have Hr : Hid (¬ Dk.writeR D a.n a.xs = 0) := by show ¬ _; rw [hr]; decide
          clear W hr
          go_wp2_with fail
          go_region_held3 (fun w' => w'.cell? ⟨c, o + k * 5, none⟩ = some (.int .u8 (a.kind : Nat)) ∧ w'.cell? ⟨c, o + k * 5 + 1, none⟩ = some (.int .i64 a.n) ∧ w'.cell? ⟨c, o + k * 5 + 3, none⟩ = some (.slice a.a a.xs.length a.cap)) (first | exact hS | exact HS.out _ (Fam.end F2)) ((go_at_call 13; refine (HW.out).mono ?_; rintro e w2 ⟨rfl, F2⟩))
          go_wp2
          go_roundg g
          case measure => omega
          case rel => exact ⟨k + 1, m, Dk.writeA D a.n a.xs, by omega, by go_num, rfl, by omega, by show _ = _; rw [Dk.write_waits, if_neg Hr.out, Hm.out], Dk.whole_write Hwh.out _ _, by show _ = _; rw [Dk.write_sure]; exact Hsu.out, F2⟩
      · have hq4' : decide ((q : Int) < 4) = false := by simp; omega
        clear hq4
        go_wp2_with fail
        go_quiet (fail)
        go_wp2
        go_roundg g
        case measure => omega
        case rel => exact ⟨k + 1, m, D, by omega, by go_num, rfl, by omega, Hm.out, Hwh.out, Hsu.out, F.no ((Touch.refl No _).drewN _)⟩
end Go.Proofs.Ytechmboimpbjpaa
