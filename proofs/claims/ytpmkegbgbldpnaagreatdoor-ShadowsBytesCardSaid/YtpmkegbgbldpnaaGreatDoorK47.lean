/-
  Layer 18's law: the chapter's store lives.
  Acts as they lie in memory (drydock/drydocklaw18.Thing).
  Layer 18's law: things that have room.
  Layer 18's law: things that are put.
  Layer 18's law: things that are put, plain.
  Layer 18's law: what has asks, plain.
  Layer 18's laws: what is put, committed, gone and undone, plain.
  A store that was committed, opened again: plain.
  A store that was committed, opened again behind a failure: plain.
  Whatever a disk's bytes are: what is opened is a store. Plain.
-/
import Derived.Test.YtpmkegbgbldpnaaGreatDoorK46
import Derived.Test.YtpmkegbgbldpnaaGreatDoorK02
import Derived.Test.YtpmkegbgbldpnaaGreatDoorK45
namespace Go.Proofs.YtpmkegbgbldpnaaGreatDoor
open Go Go.RowKit
set_option linter.unusedSimpArgs false
set_option linter.unusedVariables false
theorem Sh.putT_epoch (T : Sh.Sto) (id : Nat) (b : List Nat) : (Sh.putT T id b).epoch = T.epoch := by
  unfold Sh.putT; split <;> rfl
theorem Sh.undoT_epoch (T : Sh.Sto) : (Sh.undoT T).epoch = T.epoch := rfl
theorem Sh.epoch4 : Sh.v4.epoch = 1 := (Sh.undoT_epoch Sh.v3).trans ((Sh.putT_epoch Sh.v2 7 [1]).trans Sh.epoch2)
theorem sh_z300 : (z300.setIfInBounds 0 (.int .u8 5)).toList = nums .u8 Sh.b5 := by
  rw [Array.toList_setIfInBounds]
  show (List.replicate 300 (Value.int .u8 0)).set 0 (.int .u8 5) = List.map _ ((List.replicate 300 0).set 0 5)
  rw [List.map_set, List.map_replicate]
  rfl
set_option maxRecDepth 100000 in
set_option maxHeartbeats 8000000 in
theorem shLives (w : World) (hTab : TabAt w) : Calls Tryz.prog 11 #[] w (LawPost w) := by
  have hm3 := made300
  have HTab := Lib.hid hTab
  clear hTab
  go_enter Tryz.func11, Tryz.ntmps11
  go_wp2_with fail
  refine (shOpened w 400 (by decide) (by decide)).mono ?_
  rintro e w1 ⟨d, s, f1, rfl, s1⟩
  have S1 : Hid (Sg true w w1 s d f1 Sh.v0 []) := s1
  clear s1
  have hk : (w1.alloc (.cells z300 5)).cell? ⟨w1.heap.size, 0, none⟩ = some (.int .u8 0) := by rw [cell_new]; rfl
  have hf : (w1.alloc (.cells z300 5)).frozen? ⟨w1.heap.size, 0, none⟩ = false := frozen_new _ _ _ _
  go_wp2_with fail
  obtain ⟨w2, hw2⟩ : ∃ w2, w2 = w1.alloc (.cells (z300.setIfInBounds 0 (.int .u8 5)) 5) := ⟨_, rfl⟩
  obtain ⟨B, hB⟩ : ∃ B, B = w1.heap.size := ⟨_, rfl⟩
  have S2 : Hid (Sg true w w2 s d f1 Sh.v0 [Part.row B 5 (nums .u8 Sh.b5)]) := by
    show Sg _ _ _ _ _ _ _ _
    rw [hw2, hB, ← sh_z300]
    exact Dd.perm (Dd.push S1.out (Born.row w1 5 (z300.setIfInBounds 0 (.int .u8 5)))) (by
      refine (List.Perm.swap _ _ _).trans ((List.Perm.swap _ _ _).cons _))
  rw [← hw2, ← hB]
  clear hw2 hB hk hf hm3 S1
  have C2 := Lib.hid (Ss.freeC S2.out)
  refine C2.out.mono ?_
  rintro e w' ⟨rfl, rfl⟩
  rw [Sh.free0]
  have C3 : Hid (Calls Tryz.prog 14 #[.pointer (some ⟨s, 0, none⟩), .int .u32 7, .slice (some ⟨B, 0, none⟩) 300 300] w2 fun e w' => e = .returned (.int .i64 0) ∧ Sg true w w' s d f1 Sh.v1 [Part.row B 5 (nums .u8 Sh.b5)]) := by
    have := Ss.put S2.out Sh.h0.ok HTab.out 7 (by decide) (some ⟨B, 0, none⟩) 300 300 Sh.b5 Sh.b5_len (by decide) (by decide) (Or.inr (Or.inr (Or.inl ⟨B, _, rfl, List.mem_cons_self⟩))) Sh.b5_lt (by rw [Sh.w0']; decide) (by rw [Sh.p0]; decide)
    rw [Sh.put0] at this
    exact this
  clear C2 S2
  go_wp2_with fail
  refine C3.out.mono ?_
  rintro e w3 ⟨rfl, s3⟩
  have S3 := Lib.hid s3
  clear s3 C3
  go_wp2_with fail
  refine (Ss.freeC S3.out).mono ?_
  rintro e w' ⟨rfl, rfl⟩
  rw [Sh.free1]
  have C4 : Hid (Calls Tryz.prog 16 #[.pointer (some ⟨s, 0, none⟩)] w3 fun e w' => e = .returned (.int .i64 0) ∧ ∃ f', Sg true w w' s d f' Sh.v2 [Part.row B 5 (nums .u8 Sh.b5)]) := by
    have := Ss.commit S3.out Sh.h1.ok HTab.out (by have := Sh.w1'; omega)
    rw [Sh.com1.1] at this
    exact this
  clear S3
  go_wp2_with fail
  refine C4.out.mono ?_
  rintro e w4 ⟨rfl, f2, s4⟩
  have S4 := Lib.hid s4
  clear s4 C4
  go_wp2_with fail
  refine (Ss.freeC S4.out).mono ?_
  rintro e w' ⟨rfl, rfl⟩
  rw [Sh.free2]
  go_wp2_with fail
  obtain ⟨w5, hw5⟩ : ∃ w5, w5 = w4.alloc (.cells #[.int .u8 1] 5) := ⟨_, rfl⟩
  obtain ⟨G, hG⟩ : ∃ G, G = w4.heap.size := ⟨_, rfl⟩
  have S5 : Hid (Sg true w w5 s d f2 Sh.v2 [Part.row G 5 (nums .u8 [1])]) := by
    show Sg _ _ _ _ _ _ _ _
    rw [hw5, hG]
    have h1 : Sg true w w4 s d f2 Sh.v2 [] := S4.out.drop
    exact Dd.perm (Dd.push h1 (Born.row w4 5 #[.int .u8 1])) ((List.Perm.swap _ _ _).trans ((List.Perm.swap _ _ _).cons _))
  rw [← hw5, ← hG]
  have C6 : Hid (Calls Tryz.prog 14 #[.pointer (some ⟨s, 0, none⟩), .int .u32 7, .slice (some ⟨G, 0, none⟩) 1 1] w5 fun e w' => e = .returned (.int .i64 0) ∧ Sg true w w' s d f2 Sh.v3 [Part.row G 5 (nums .u8 [1])]) := by
    have := Ss.put S5.out Sh.h2.ok HTab.out 7 (by decide) (some ⟨G, 0, none⟩) 1 1 [1] rfl (by decide) (by decide) (Or.inr (Or.inr (Or.inl ⟨G, _, rfl, List.mem_cons_self⟩))) (by decide) (by rw [Sh.w2']; decide) (by rw [Sh.p2]; decide)
    rw [Sh.put2] at this
    exact this
  clear hw5 hG S4 S5
  refine C6.out.mono ?_
  rintro e w6 ⟨rfl, s6⟩
  have C7 : Hid (Calls Tryz.prog 22 #[.pointer (some ⟨s, 0, none⟩)] w6 fun e w' => e = .returned (.int .i64 0) ∧ ∃ f', Sg true w w' s d f' Sh.v4 [Part.row G 5 (nums .u8 [1])]) := Ss.undo s6 Sh.h3.ok
  clear s6 C6
  go_wp2_with fail
  refine C7.out.mono ?_
  rintro e w7 ⟨rfl, f3, s7⟩
  have C8 : Hid (Calls Tryz.prog 15 #[.pointer (some ⟨s, 0, none⟩), .int .u32 7] w7 fun e w' => ∃ b, e = .returned (.tuple #[.slice b 300 300, .int .i64 0]) ∧ Sg true w w' s d f3 Sh.v4 (Part.sl 5 b 300 300 (nums .u8 Sh.b5) :: [Part.row G 5 (nums .u8 [1])])) := by
    refine (Ss.get s7 Sh.h4.ok 7 (by decide)).mono ?_
    rintro e w' ⟨b, k, he, hk, h⟩
    rw [Sh.get4.2, Sh.b5_len] at hk
    subst hk
    rw [Sh.get4.1] at he
    rw [Sh.get4.2] at h
    exact ⟨b, he, h⟩
  clear s7 C7
  go_wp2_with fail
  refine C8.out.mono ?_
  rintro e w8 ⟨b, rfl, s8⟩
  have C9 : Hid (Calls Tryz.prog 15 #[.pointer (some ⟨s, 0, none⟩), .int .u32 8] w8 fun e w' => ∃ v, e = .returned (.tuple #[v, .int .i64 7]) ∧ Sg true w w' s d f3 Sh.v4 (Part.sl 5 b 300 300 (nums .u8 Sh.b5) :: [Part.row G 5 (nums .u8 [1])])) := by
    refine (Ss.get s8 Sh.h4.ok 8 (by decide)).mono ?_
    rintro e w' ⟨b, k, he, hk, h⟩
    rw [Sh.get8.1] at he
    exact ⟨_, he, Sg.drop h⟩
  clear s8 C8
  go_wp2_with fail
  refine C9.out.mono ?_
  rintro e w9 ⟨v, rfl, s9⟩
  obtain ⟨gb, go, hb, hc⟩ := (s9.rd List.mem_cons_self).num (i := 0) (by rw [Sh.b5_len]; decide)
  have h5 : Sh.b5.getD 0 0 = 5 := by
    rw [Sh.b5, List.getD_eq_getElem?_getD, List.getElem?_set_self (by rw [List.length_replicate]; decide)]; rfl
  rw [h5] at hc
  subst hb
  have S9 := Lib.hid s9
  have CE : Hid (Calls Tryz.prog 24 #[.pointer (some ⟨s, 0, none⟩)] w9 fun e w' => e = .returned (.int .u32 1) ∧ w9 = w') := by
    have := Ss.epochC s9
    rw [show Sh.v4.epoch = 1 from Sh.epoch4] at this
    exact this
  have hc0 : w9.cell? ⟨gb, go, none⟩ = some (.int .u8 5) := hc
  clear s9 C9 h5 hc
  go_wp2_with fail
  refine (shOpen_nil w9).mono ?_
  rintro e w' ⟨rfl, rfl⟩
  go_wp2_with fail
  refine CE.out.mono ?_
  rintro e w' ⟨rfl, rfl⟩
  go_wp2_with fail
  refine (shCommit_nil w9).mono ?_
  rintro e w' ⟨rfl, rfl⟩
  go_wp2
  go_ret
  exact ⟨rfl, S9.out.end⟩
end Go.Proofs.YtpmkegbgbldpnaaGreatDoor
namespace Go.Proofs.YtpmkegbgbldpnaaGreatDoor
open Go Go.RowKit

/-- an act as it lies in memory -/
structure TgDeed where
  id : Nat
  b : List Nat
  b_a : Option Addr
  b_cap : Nat
end Go.Proofs.YtpmkegbgbldpnaaGreatDoor
namespace Go.Proofs.YtpmkegbgbldpnaaGreatDoor
open Go Go.RowKit
set_option linter.unusedSimpArgs false
set_option linter.unusedVariables false
namespace Sh
end Sh
end Go.Proofs.YtpmkegbgbldpnaaGreatDoor
namespace Go.Proofs.YtpmkegbgbldpnaaGreatDoor
open Go Go.RowKit
set_option linter.unusedSimpArgs false
set_option linter.unusedVariables false
namespace Sh
end Sh
section
variable {w0 w w' : World} {s d f : Nat} {T : Sh.Sto} {E : List Part}
end
end Go.Proofs.YtpmkegbgbldpnaaGreatDoor
namespace Go.Proofs.YtpmkegbgbldpnaaGreatDoor
set_option maxRecDepth 100000
open Go Go.RowKit
set_option linter.unusedSimpArgs false
set_option linter.unusedVariables false
namespace Sh
end Sh
end Go.Proofs.YtpmkegbgbldpnaaGreatDoor
namespace Go.Proofs.YtpmkegbgbldpnaaGreatDoor
open Go Go.RowKit
set_option linter.unusedSimpArgs false
set_option linter.unusedVariables false
namespace Sh
/-- so many ids -/
def cnt : List TgDeed → Nat
  | [] => 0
  | x :: r => (if r.any (fun y => y.id == x.id) then 0 else 1) + cnt r
end Sh
end Go.Proofs.YtpmkegbgbldpnaaGreatDoor
namespace Go.Proofs.YtpmkegbgbldpnaaGreatDoor
set_option maxRecDepth 100000
open Go Go.RowKit
set_option linter.unusedSimpArgs false
set_option linter.unusedVariables false
namespace Sh
section
variable {T T' : Sto} {c c' k : List (Nat × List Nat)} {e n : Nat}
end
end Sh
end Go.Proofs.YtpmkegbgbldpnaaGreatDoor
namespace Go.Proofs.YtpmkegbgbldpnaaGreatDoor
set_option maxRecDepth 100000
open Go Go.RowKit
set_option linter.unusedSimpArgs false
set_option linter.unusedVariables false
namespace Mp
end Mp
namespace Sh
theorem put_last {α : Type} {k : List (Nat × α)} {id : Nat} (h : ∀ q ∈ k, q.1 < id) (x : α) : Mp.put k id x = k ++ [(id, x)] := by
  induction k with
  | nil => rfl
  | cons q r ih =>
    obtain ⟨i, y⟩ := q
    have := h _ List.mem_cons_self
    simp only at this
    unfold Mp.put
    rw [if_neg (by omega), if_neg (by omega), ih (fun q hq => h q (List.mem_cons_of_mem _ hq)), List.cons_append]
end Sh
end Go.Proofs.YtpmkegbgbldpnaaGreatDoor
namespace Go.Proofs.YtpmkegbgbldpnaaGreatDoor
set_option maxRecDepth 100000
open Go Go.RowKit
set_option linter.unusedSimpArgs false
set_option linter.unusedVariables false
namespace Dk
end Dk
namespace Sh
section
variable {D2 D : Dk.Disk} {P : Nat → Prop}
end
end Sh
end Go.Proofs.YtpmkegbgbldpnaaGreatDoor
namespace Go.Proofs.YtpmkegbgbldpnaaGreatDoor
set_option maxRecDepth 100000
open Go Go.RowKit
set_option linter.unusedSimpArgs false
set_option linter.unusedVariables false
namespace Sh
/-- rows that were told so far -/
structure Told (ep : Nat) (S0 : Nat → Bool) (last : Int) (S : Nat → Bool) (k : List (Nat × Th)) : Prop where
  up : Mp.Up k
  last : ∀ p ∈ k, (p.1 : Int) ≤ last
  th : ∀ p ∈ k, ThOk p
  old : ∀ p ∈ k, p.2.fresh = false
  dj : ∀ p ∈ k, ∀ q ∈ k, p.1 ≠ q.1 → Dj p.2.pages q.2.pages
  on : ∀ p ∈ k, ∀ x ∈ p.2.pages, S0 x = true
  S : ∀ x, S x = true ↔ S0 x = true ∧ ∀ p ∈ k, x ∉ p.2.pages
theorem told_ok {ep : Nat} (hep : ep < 4294967296) {S0 : Nat → Bool} : ∀ (m : Nat) (b : List Nat) (last : Int) (S : Nat → Bool) (k : List (Nat × Th)) (S' : Nat → Bool) (k' : List (Nat × Th)), b.length ≤ m → (∀ x ∈ b, x < 256) → Told ep S0 last S k → rowsP ep b last S k = some (S', k') → ∃ last', Told ep S0 last' S' k'
  | m, b, last, S, k, S', k', hm, hb, hT, h => by
    rw [rowsP] at h
    by_cases h0 : b.length = 0
    · rw [if_pos h0] at h
      cases h
      exact ⟨last, hT⟩
    · rw [if_neg h0] at h
      by_cases h12 : b.length < 12
      · rw [dif_pos h12] at h; cases h
      · rw [dif_neg h12] at h
        split at h
        · cases h
        · rename_i g1
          split at h
          · cases h
          · rename_i g2
            split at h
            · rename_i g3
              obtain ⟨l, hl⟩ : ∃ l, nums (b.drop 12) (Ex.pages (Rt.unfour (b.drop 4))) = l := ⟨_, rfl⟩
              rw [hl] at g3 h
              have hd4 : ∀ x ∈ b.drop 4, x < 256 := fun x hx => hb x (List.mem_of_mem_drop hx)
              have hd8 : ∀ x ∈ b.drop 8, x < 256 := fun x hx => hb x (List.mem_of_mem_drop hx)
              have hid := Rt.unfour_lt hb
              obtain ⟨id, hidd⟩ : ∃ id, Rt.unfour b = id := ⟨_, rfl⟩
              obtain ⟨by', hby⟩ : ∃ by', Rt.unfour (b.drop 4) = by' := ⟨_, rfl⟩
              obtain ⟨e, he⟩ : ∃ e, Rt.unfour (b.drop 8) = e := ⟨_, rfl⟩
              rw [hidd, hby, he] at h g1
              rw [hidd] at hid
              rw [hby] at hl
              obtain ⟨n1, n2⟩ := marks_true.1 g3
              have hlast : ∀ q ∈ k, q.1 < id := fun q hq => by have := hT.last q hq; omega
              rw [put_last hlast] at h
              have hll : l.length = Ex.pages by' := by rw [← hl, nums_length]
              have hTh : ThOk (id, ⟨by', e, l, false⟩) := ⟨hid, by show by' ≤ 65536; omega, hll, n1, by show e < _; omega⟩
              have hdj : ∀ q ∈ k, ∀ x ∈ q.2.pages, x ∉ l := fun q hq x hx hy => ((hT.S x).1 (n2 x hy)).2 q hq hx
              refine told_ok hep m (b.drop (12 + 4 * Ex.pages by')) (id : Int) (Fr.sub S l) (k ++ [(id, ⟨by', e, l, false⟩)]) S' k' (by rw [List.length_drop]; omega) (fun x hx => hb x (List.mem_of_mem_drop hx)) ?_ h
              refine ⟨?_, fun p hp => ?_, fun p hp => ?_, fun p hp => ?_, fun p hp q hq hne x hx hy => ?_, fun p hp x hx => ?_, fun x => ?_⟩
              · refine List.pairwise_append.2 ⟨hT.up, List.pairwise_singleton _ _, fun p hp q hq => ?_⟩
                rw [List.mem_singleton] at hq
                rw [hq]
                exact hlast p hp
              · rcases List.mem_append.1 hp with hp | hp
                · have := hlast p hp; omega
                · rw [List.mem_singleton] at hp; rw [hp]; exact Int.le_refl _
              · rcases List.mem_append.1 hp with hp | hp
                · exact hT.th p hp
                · rw [List.mem_singleton] at hp; rw [hp]; exact hTh
              · rcases List.mem_append.1 hp with hp | hp
                · exact hT.old p hp
                · rw [List.mem_singleton] at hp; rw [hp]
              · rcases List.mem_append.1 hp with hp | hp
                · rcases List.mem_append.1 hq with hq | hq
                  · exact hT.dj p hp q hq hne x hx hy
                  · rw [List.mem_singleton] at hq; rw [hq] at hy; exact hdj p hp x hx hy
                · rw [List.mem_singleton] at hp
                  rcases List.mem_append.1 hq with hq | hq
                  · rw [hp] at hx; exact hdj q hq x hy hx
                  · rw [List.mem_singleton] at hq; exact hne (by rw [hp, hq])
              · rcases List.mem_append.1 hp with hp | hp
                · exact hT.on p hp x hx
                · rw [List.mem_singleton] at hp; rw [hp] at hx; exact ((hT.S x).1 (n2 x hx)).1
              · rw [sub_true, hT.S x]
                constructor
                · rintro ⟨⟨a, c⟩, d⟩
                  refine ⟨a, fun p hp => ?_⟩
                  rcases List.mem_append.1 hp with hp | hp
                  · exact c p hp
                  · rw [List.mem_singleton] at hp; rw [hp]; exact d
                · rintro ⟨a, c⟩
                  exact ⟨⟨a, fun p hp => c p (List.mem_append_left _ hp)⟩, c _ (List.mem_append_right _ (List.mem_singleton.2 rfl))⟩
            · cases h
  termination_by m b => b.length
  decreasing_by rw [List.length_drop]; omega
/-- what is opened is a store -/
theorem opened_fit {D : Dk.Disk} {T : Sto} (h : readsP D = .ok T) (hok : Dk.Ok D) (lo : 32 ≤ D.seen.length) (hi : D.seen.length ≤ 16384) :
    Fit D T.epoch T.table T.kept ∧ ({ T with now := T.kept, puts := 64 } : Sto) = settle D T.epoch T.table T.kept ∧ Rt.At D T.epoch ∧ T.D = D := by
  have hr := Rt.find_ok hok
  unfold readsP at h
  split at h
  · rename_i g0
    cases h
    refine ⟨⟨lo, hi, (by show 0 < 4294967296; decide), List.Pairwise.nil, Nat.zero_le _, (fun p hp => by cases hp), (fun p hp => by cases hp), List.nodup_nil, Nat.zero_le _, (fun p hp => by cases hp), (fun p hp => by cases hp), fun p hp => by cases hp⟩, ?_, Or.inl ⟨g0, rfl⟩, rfl⟩
    exact newS_settle D
  · split at h
    · cases h
    · rename_i g7 g0
      have g0 : Rt.findE D = 0 := by
        rcases Nat.eq_zero_or_pos (Rt.findE D) with e | e
        · exact e
        · exact absurd (by omega) g0
      split at h
      · cases h
      · rename_i g1
        split at h
        · cases h
        · split at h
          · cases h
          · rename_i g3
            split at h
            · cases h
            · rename_i g4
              split at h
              · cases h
              · split at h
                · cases h
                · rename_i S k g6
                  split at h
                  · cases h
                  · rename_i g7
                    cases h
                    obtain ⟨l, hl⟩ : ∃ l, nums (Pg.rB D (Rt.findR D).first) ((Pg.rB D (Rt.findR D).first).length / 4) = l := ⟨_, rfl⟩
                    rw [hl] at g4 g6 ⊢
                    have hll : l.length ≤ 60 := by rw [← hl, nums_length]; have := Pg.rB_le D (Rt.findR D).first; omega
                    have g4 : marks (upTo 1 (1 + many D)) ((Rt.findR D).first :: l) = true := by simpa using g4
                    obtain ⟨n1, n2⟩ := marks_true.1 g4
                    have hrng : ∀ x ∈ (Rt.findR D).first :: l, 1 ≤ x ∧ x ≤ many D := fun x hx => by
                      have := n2 x hx
                      simp only [upTo, Bool.and_eq_true, decide_eq_true_eq] at this
                      omega
                    obtain ⟨last', ht⟩ := told_ok (S0 := Fr.sub (upTo 1 (1 + many D)) ((Rt.findR D).first :: l)) hr.epoch _ _ (-1) _ [] S k (Nat.le_refl _) (Ex.rB_lt hok _ _ _) ⟨List.Pairwise.nil, (fun p hp => by cases hp), (fun p hp => by cases hp), (fun p hp => by cases hp), (fun p hp => by cases hp), (fun p hp => by cases hp), fun x => by simp⟩ g6
                    have hS0 : ∀ x, Fr.sub (upTo 1 (1 + many D)) ((Rt.findR D).first :: l) x = true ↔ 1 ≤ x ∧ x ≤ many D ∧ x ∉ (Rt.findR D).first :: l := fun x => by
                      rw [sub_true]
                      simp only [upTo, Bool.and_eq_true, decide_eq_true_eq]
                      constructor
                      · rintro ⟨⟨a, b⟩, c⟩; exact ⟨a, by omega, c⟩
                      · rintro ⟨a, b, c⟩; exact ⟨⟨a, by omega⟩, c⟩
                    refine ⟨⟨lo, hi, hr.epoch, ht.up, by show k.length ≤ 64; omega, ht.th, ht.dj, n1, by show ((Rt.findR D).first :: l).length ≤ 61; rw [List.length_cons]; omega, fun p hp x hx hy => ((hS0 x).1 (ht.on p hp x hy)).2.2 hx, hrng, fun p hp x hx => ⟨((hS0 x).1 (ht.on p hp x hx)).1, ((hS0 x).1 (ht.on p hp x hx)).2.1⟩⟩, ?_, Or.inr ⟨g0, rfl⟩, rfl⟩
                    have eS : S = restS D ((Rt.findR D).first :: l) k := by
                      funext x
                      rw [Bool.eq_iff_iff, ht.S x, hS0 x, restS_true]
                      constructor
                      · rintro ⟨⟨a, b, c⟩, d⟩
                        exact ⟨a, b, fun e => e.elim c (fun ⟨p, hp, hx⟩ => d p hp hx)⟩
                      · rintro ⟨a, b, c⟩
                        exact ⟨⟨a, b, fun hx => c (Or.inl hx)⟩, fun p hp hx => c (Or.inr ⟨p, hp, hx⟩)⟩
                    show (⟨D, S, (Rt.findR D).epoch, k, k, (Rt.findR D).first :: l, 64⟩ : Sto) = ⟨D, restS D ((Rt.findR D).first :: l) k, (Rt.findR D).epoch, k.map old, k.map old, (Rt.findR D).first :: l, 64⟩
                    rw [← eS, old_old ht.old]
end Sh
end Go.Proofs.YtpmkegbgbldpnaaGreatDoor
