/-
  The statements' own helpers for a disk: alike.
-/
import Derived.Test.YtechmboimpbjpaaDActs
namespace Go.Proofs.Ytechmboimpbjpaa
open Go Go.RowKit

namespace Dk
/-- what is seen of a sector -/
def sees (s : Sec) : Option (List Nat) := if s.bad = 1 then none else some s.b
end Dk

set_option maxRecDepth 100000 in
set_option maxHeartbeats 4000000 in
theorem alike_k (w : World) (a b : Nat) (A B : Dk.Disk) (OA OB : Nat → Prop) (hA : DiskAt w a A OA) (hB : DiskAt w b B OB) (hl : A.seen.length = B.seen.length) (hs : ∀ i, i < A.seen.length → Dk.sees (Dk.at_ A.seen i) = Dk.sees (Dk.at_ B.seen i)) :
    Calls Try.prog 27 #[.pointer (some ⟨a, 0, none⟩), .pointer (some ⟨b, 0, none⟩)] w fun e w' => e = .returned (.bool true) ∧ Touch No w w' := by
  have HA := Lib.hid hA
  have HB := Lib.hid hB
  have Hl := Lib.hid hl
  have Hs := Lib.hid hs
  have htop := hA.ok.top
  obtain ⟨n, hn⟩ : ∃ n, A.seen.length = n := ⟨_, rfl⟩
  rw [hn] at htop
  have Hn := Lib.hid hn
  have HlenA : Hid (∀ wr, Touch No w wr → Calls Try.prog 24 #[.pointer (some ⟨a, 0, none⟩)] wr fun e w' => e = .returned (.int .i64 (n : Nat)) ∧ wr = w') := fun wr t => by
    have := len_in wr a A OA (hA.no t)
    rwa [hn] at this
  have HlenB : Hid (∀ wr, Touch No w wr → Calls Try.prog 24 #[.pointer (some ⟨b, 0, none⟩)] wr fun e w' => e = .returned (.int .i64 (n : Nat)) ∧ wr = w') := fun wr t => by
    have := len_in wr b B OB (hB.no t)
    rwa [← hl, hn] at this
  clear hA hB hl hs hn
  go_enter Try.func27, Try.ntmps27
  go_wp2_with fail
  refine (HlenA.out w (Touch.refl _ _)).mono ?_
  rintro e w' ⟨rfl, rfl⟩
  go_wp2_with fail
  refine (HlenB.out w (Touch.refl _ _)).mono ?_
  rintro e w' ⟨rfl, rfl⟩
  go_wp2_with fail
  go_loopg [5] n (fun g s5 wr => ∃ k : Nat, k + g = n ∧ s5 = .int .i64 ((k : Nat) : Int) ∧ Hid (Touch No w wr))
  case atStart => exact ⟨0, by omega, rfl, Touch.refl _ _⟩
  case round =>
    obtain ⟨k, hkg, rfl, T⟩ := hrel
    cases gk with
    | zero =>
      obtain rfl : k = n := by omega
      go_wp2_with fail
      refine (HlenA.out wr T.out).mono ?_
      rintro e w' ⟨rfl, rfl⟩
      go_wp2
      go_ret
      exact ⟨rfl, T.out⟩
    | succ g =>
      have hlt : (k : Int) < (n : Nat) := by omega
      have hkA : Hid (k < A.seen.length) := by show k < _; rw [Hn.out]; omega
      have hkB : Hid (k < B.seen.length) := by show k < _; rw [← Hl.out]; exact hkA.out
      have DA := Lib.hid (HA.out.no T.out)
      have DB := Lib.hid (HB.out.no T.out)
      have hsee := Hs.out k hkA.out
      by_cases hb : (Dk.at_ A.seen k).bad = 1
      · have hb' : (Dk.at_ B.seen k).bad = 1 := by
          by_cases h : (Dk.at_ B.seen k).bad = 1
          · exact h
          · rw [Dk.sees, Dk.sees, if_pos hb, if_neg h] at hsee; cases hsee
        have HbA := Lib.hid hb
        have HbB := Lib.hid hb'
        clear hsee hb hb'
        go_wp2_with fail
        refine (HlenA.out wr T.out).mono ?_
        rintro e w' ⟨rfl, rfl⟩
        go_wp2_with fail
        refine (read_lost wr a A OA k DA.out hkA.out HbA.out).mono ?_
        rintro e w' ⟨rfl, rfl⟩
        go_wp2_with fail
        refine (read_lost wr b B OB k DB.out hkB.out HbB.out).mono ?_
        rintro e w' ⟨rfl, rfl⟩
        go_wp2_with fail
        refine (sameBytes_eq wr none none 0 0 0 [] [] rfl rfl (by decide) (Rd.nil _ _) (Rd.nil _ _)).mono ?_
        rintro e w3 ⟨rfl, t3⟩
        have T3 := Lib.hid t3
        clear t3
        have hsb : sameBytes [] [] = true := rfl
        go_wp2_with fail
        go_roundg g
        case measure => omega
        case rel => exact ⟨k + 1, by omega, by go_num, T.out.trans T3.out⟩
      · have hb' : ¬ (Dk.at_ B.seen k).bad = 1 := fun h => by rw [Dk.sees, Dk.sees, if_neg hb, if_pos h] at hsee; cases hsee
        have hbb : (Dk.at_ A.seen k).b = (Dk.at_ B.seen k).b := by
          rw [Dk.sees, Dk.sees, if_neg hb, if_neg hb'] at hsee; exact Option.some.inj hsee
        have okA := DA.out.ok.seen _ (Dk.at_mem hkA.out)
        have okB := DB.out.ok.seen _ (Dk.at_mem hkB.out)
        have HbA : Hid ((Dk.at_ A.seen k).bad = 0) := by show _ = _; have := okA.bad; omega
        have HbB : Hid ((Dk.at_ B.seen k).bad = 0) := by show _ = _; have := okB.bad; omega
        have HlA := Lib.hid okA.b.len
        have HlB := Lib.hid okB.b.len
        have Hbb := Lib.hid hbb
        clear hsee hb hb' hbb okA okB
        go_wp2_with fail
        refine (HlenA.out wr T.out).mono ?_
        rintro e w' ⟨rfl, rfl⟩
        go_wp2_with fail
        refine (read_in wr a A OA k DA.out hkA.out HbA.out).mono ?_
        rintro e w1 ⟨g1, rfl, j1, r1, t1⟩
        have R1 := Lib.hid r1
        have T1 := Lib.hid t1
        clear j1 r1 t1
        go_wp2_with fail
        refine (read_in w1 b B OB k (DB.out.no T1.out) hkB.out HbB.out).mono ?_
        rintro e w2 ⟨g2, rfl, j2, r2, t2⟩
        have R2 := Lib.hid r2
        have T2 := Lib.hid t2
        clear j2 r2 t2
        go_wp2_with fail
        refine (sameBytes_eq w2 _ _ 64 64 64 _ _ HlA.out HlB.out (by decide) (R1.out.no T2.out) R2.out).mono ?_
        rintro e w3 ⟨rfl, t3⟩
        have T3 := Lib.hid t3
        clear t3
        have hsb : sameBytes (Dk.at_ A.seen k).b (Dk.at_ B.seen k).b = true := by
          simp [sameBytes, Hbb.out]
        go_wp2_with fail
        go_roundg g
        case measure => omega
        case rel => exact ⟨k + 1, by omega, by go_num, ((T.out.trans T1.out).trans T2.out).trans T3.out⟩
theorem St.alike {w0 wi : World} {a b : Nat} {A B : Dk.Disk} (hA : St w0 wi a A) (hB : St w0 wi b B) (hl : A.seen.length = B.seen.length) (hs : ∀ i, i < A.seen.length → Dk.sees (Dk.at_ A.seen i) = Dk.sees (Dk.at_ B.seen i)) :
    Calls Try.prog 27 #[.pointer (some ⟨a, 0, none⟩), .pointer (some ⟨b, 0, none⟩)] wi fun e w' => e = .returned (.bool true) ∧ Touch No wi w' := by
  obtain ⟨OA, hA, _⟩ := hA
  obtain ⟨OB, hB, _⟩ := hB
  exact alike_k wi a b A B OA OB hA.on hB.on hl hs
end Go.Proofs.Ytechmboimpbjpaa
