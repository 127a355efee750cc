/-
  The plain law of roots: root upon root into a disk that fails behind each of them.
-/
import Derived.Test.YtponmdacphapnaaRtT
namespace Go.Proofs.Ytponmdacphapnaa
open Go Go.RowKit
namespace Rt
/-- i roots were put down, the last one of epoch ep -/
structure Run (D : Dk.Disk) (i ep : Nat) : Prop where
  len : D.seen.length = 16
  waits : D.waits = []
  sure : D.sure = D.seen
  one : 1 ≤ i → ∃ r : Root, r.Ok ∧ Holds (Dk.at_ D.seen ((i - 1) % 2)) r ∧ r.epoch = ep
  two : 2 ≤ i → ∃ r : Root, r.Ok ∧ Holds (Dk.at_ D.seen (i % 2)) r ∧ r.epoch < ep
  no0 : i = 0 → Dk.at_ D.seen 0 = Dk.noughts
  no1 : i ≤ 1 → Dk.at_ D.seen 1 = Dk.noughts
theorem run_new : Run (Dk.new 16) 0 0 := ⟨rfl, rfl, rfl, fun h => by omega, fun h => by omega, fun _ => rfl, fun _ => rfl⟩
theorem run_find {D : Dk.Disk} {i ep : Nat} (h : Run D i ep) : (findE D = 0 ∨ findE D = 7) ∧ (findE D = 0 → (findR D).epoch = ep) ∧ findN D = i % 2 := by
  have h8 : 8 ≤ D.seen.length := by rw [h.len]; decide
  by_cases c0 : i = 0
  · subst c0
    obtain ⟨e, n⟩ := find_none h8 (h.no0 rfl ▸ clear_new) (h.no1 (by omega) ▸ clear_new)
    exact ⟨Or.inr e, fun e' => (by rw [e] at e'; cases e'), n⟩
  obtain ⟨r, ro, a, re⟩ := h.one (by omega)
  by_cases c1 : i = 1
  · subst c1
    obtain ⟨e, r, n⟩ := find_first h8 a (h.no1 (by omega) ▸ clear_new) ro
    exact ⟨Or.inl e, fun _ => (by rw [r, re]), n⟩
  obtain ⟨s, so, b, se⟩ := h.two (by omega)
  rcases Nat.mod_two_eq_zero_or_one i with hm | hm
  · rw [show (i - 1) % 2 = 1 by omega] at a
    rw [hm] at b ⊢
    obtain ⟨e, r, n⟩ := find_both h8 b a so ro
    rw [if_pos (by omega)] at r n
    exact ⟨Or.inl e, fun _ => (by rw [r, re]), n⟩
  · rw [show (i - 1) % 2 = 0 by omega] at a
    rw [hm] at b ⊢
    obtain ⟨e, r, n⟩ := find_both h8 a b ro so
    rw [if_neg (by omega)] at r n
    exact ⟨Or.inl e, fun _ => (by rw [r, re]), n⟩
/-- the last one is the one that is read -/
theorem run_read {D : Dk.Disk} {i ep : Nat} (h : Run D (i + 1) ep) {r : Root} (hr : r.Ok) (a : Holds (Dk.at_ D.seen (i % 2)) r) (he : r.epoch = ep) : findE D = 0 ∧ findR D = r := by
  have h8 : 8 ≤ D.seen.length := by rw [h.len]; decide
  by_cases c1 : i = 0
  · subst c1
    obtain ⟨e, r, n⟩ := find_first h8 a (h.no1 (by omega) ▸ clear_new) hr
    exact ⟨e, r⟩
  obtain ⟨s, so, b, se⟩ := h.two (by omega)
  rcases Nat.mod_two_eq_zero_or_one i with hm | hm
  · rw [show (i + 1) % 2 = 1 by omega] at b
    rw [hm] at a
    obtain ⟨e, r, n⟩ := find_both h8 a b hr so
    rw [if_neg (by omega)] at r
    exact ⟨e, r⟩
  · rw [show (i + 1) % 2 = 0 by omega] at b
    rw [hm] at a
    obtain ⟨e, r, n⟩ := find_both h8 b a so hr
    rw [if_pos (by omega)] at r
    exact ⟨e, r⟩
theorem run_step {D : Dk.Disk} {i ep : Nat} (h : Run D i ep) {r : Root} (hr : r.Ok) (he : ep < r.epoch) : wE D r = 0 ∧ Run (wD D r) (i + 1) r.epoch ∧ Holds (Dk.at_ (wD D r).seen (i % 2)) r := by
  obtain ⟨hE, hR, hN⟩ := run_find h
  have hw : wE D r = 0 := by
    rw [wE, if_neg (by omega), if_neg (fun ⟨h1, h2⟩ => by
      have := hR h1
      omega)]
  have hd : wD D r = Dk.sync (Dk.write (Dk.sync D) (i % 2) (put r)) := by rw [wD, hw, if_pos rfl, hN]
  have hs : (wD D r).seen = D.seen.set (i % 2) ⟨Dk.pad (put r), 0⟩ := by rw [hd]; rfl
  have hlt : i % 2 < D.seen.length := by rw [h.len]; omega
  have hh : Holds (Dk.at_ (wD D r).seen (i % 2)) r := by rw [hs, at_set hlt]; exact holds_pad
  refine ⟨hw, ⟨by rw [hs, List.length_set]; exact h.len, by rw [hd]; rfl, by rw [hd]; rfl, fun _ => ⟨r, hr, by rw [Nat.add_sub_cancel]; exact hh, rfl⟩, fun h2 => ?_, fun h0 => by omega, fun h1 => ?_⟩, hh⟩
  · obtain ⟨s, so, b, se⟩ := h.one (by omega)
    refine ⟨s, so, ?_, by omega⟩
    rw [hs, at_set_ne (by omega)]
    rwa [show (i - 1) % 2 = (i + 1) % 2 by omega] at b
  · rw [hs, at_set_ne (by omega)]
    exact h.no1 (by omega)
theorem run_fail {D : Dk.Disk} {i ep : Nat} (h : Run D i ep) (keep : Nat) (torn : Int) : Dk.fail D keep torn = D := by
  obtain ⟨sure, seen, waits⟩ := D
  have h1 : waits = [] := h.waits
  have h2 : sure = seen := h.sure
  subst h1 h2
  rfl
theorem torn_put {s : Dk.Sec} {r q : Root} (h : Holds s q ∨ s = Dk.noughts) : (put r).take 32 ++ s.b.drop 32 = put r := by
  have e : s.b.drop 32 = List.replicate 32 0 := by
    rcases h with ⟨_, h⟩ | h
    · rw [h]; rfl
    · rw [h]; rfl
  rw [e]; rfl
/-- one more put down, not sure yet, and a failure: it is there, or the one ahead of it -/
theorem run_torn {D : Dk.Disk} {i ep : Nat} (h : Run D (i + 1) ep) {r : Root} (hr : r.Ok) (a : Holds (Dk.at_ D.seen (i % 2)) r) (he : r.epoch = ep) (ho : ep + 1 < 4294967296) (keep : Nat) (torn : Int) :
    findE (Dk.fail (Dk.write D ((i + 1) % 2) (put ⟨ep + 1, 0, 0⟩)) keep torn) = 0 ∧ (findR (Dk.fail (Dk.write D ((i + 1) % 2) (put ⟨ep + 1, 0, 0⟩)) keep torn) = r ∨ findR (Dk.fail (Dk.write D ((i + 1) % 2) (put ⟨ep + 1, 0, 0⟩)) keep torn) = ⟨ep + 1, 0, 0⟩) := by
  obtain ⟨C, hC⟩ : ∃ C, C = Dk.fail (Dk.write D ((i + 1) % 2) (put ⟨ep + 1, 0, 0⟩)) keep torn := ⟨_, rfl⟩
  rw [← hC]
  have hseen : C.seen = Dk.failStep keep torn D.seen 0 ⟨(i + 1) % 2, Dk.pad (put ⟨ep + 1, 0, 0⟩), 0⟩ := by
    rw [hC]
    show Dk.failed keep torn D.sure 0 (D.waits ++ [_]) = _
    rw [h.waits, h.sure]; rfl
  have hlt : (i + 1) % 2 < D.seen.length := by rw [h.len]; omega
  have hold : ∃ q, Holds (Dk.at_ D.seen ((i + 1) % 2)) q ∨ Dk.at_ D.seen ((i + 1) % 2) = Dk.noughts := by
    by_cases c : i = 0
    · subst c; exact ⟨r, Or.inr (h.no1 (by omega))⟩
    · obtain ⟨q, _, b, _⟩ := h.two (by omega)
      exact ⟨q, Or.inl b⟩
  obtain ⟨q, hq⟩ := hold
  have hbad : (Dk.at_ D.seen ((i + 1) % 2)).bad = 0 := by
    rcases hq with h | h
    · exact h.1
    · rw [h]; rfl
  have both : ∀ s : Dk.Sec, C.seen = D.seen.set ((i + 1) % 2) s → Holds s ⟨ep + 1, 0, 0⟩ → findE C = 0 ∧ findR C = ⟨ep + 1, 0, 0⟩ := fun s hS hs => by
    have h8 : 8 ≤ C.seen.length := by rw [hS, List.length_set, h.len]; decide
    have b1 : Holds (Dk.at_ C.seen ((i + 1) % 2)) ⟨ep + 1, 0, 0⟩ := by rw [hS, at_set hlt]; exact hs
    have b2 : Holds (Dk.at_ C.seen (i % 2)) r := by rw [hS, at_set_ne (by omega)]; exact a
    have ho' := ep_ok ho
    rcases Nat.mod_two_eq_zero_or_one i with hm | hm
    · rw [show (i + 1) % 2 = 1 by omega] at b1
      rw [hm] at b2
      obtain ⟨e, r, _⟩ := find_both h8 b2 b1 hr ho'
      rw [if_pos (by dsimp only; omega)] at r
      exact ⟨e, r⟩
    · rw [show (i + 1) % 2 = 0 by omega] at b1
      rw [hm] at b2
      obtain ⟨e, r, _⟩ := find_both h8 b1 b2 ho' hr
      rw [if_neg (by dsimp only; omega)] at r
      exact ⟨e, r⟩
  by_cases c1 : ((0 : Nat) : Int) = torn
  · have hS : C.seen = D.seen.set ((i + 1) % 2) (Dk.tornS ⟨(i + 1) % 2, Dk.pad (put ⟨ep + 1, 0, 0⟩), 0⟩ (Dk.at_ D.seen ((i + 1) % 2))) := by
      rw [hseen, Dk.failStep, if_pos c1]; rfl
    obtain ⟨e, f⟩ := both _ hS ⟨hbad, by
      show (Dk.pad (put ⟨ep + 1, 0, 0⟩)).take 32 ++ (Dk.at_ D.seen ((i + 1) % 2)).b.drop 32 = _
      rw [pad_put]; exact torn_put hq⟩
    exact ⟨e, Or.inr f⟩
  by_cases c2 : keep.testBit (0 % 64) = true
  · have hS : C.seen = D.seen.set ((i + 1) % 2) (Dk.keptS ⟨(i + 1) % 2, Dk.pad (put ⟨ep + 1, 0, 0⟩), 0⟩ (Dk.at_ D.seen ((i + 1) % 2))) := by
      rw [hseen, Dk.failStep, if_neg c1, if_pos c2]; rfl
    obtain ⟨e, f⟩ := both _ hS ⟨Nat.and_zero _, pad_put _⟩
    exact ⟨e, Or.inr f⟩
  · have hS : C.seen = D.seen := by rw [hseen, Dk.failStep, if_neg c1, if_neg c2]
    have e : ∀ C' : Dk.Disk, C'.seen = D.seen → findE C' = findE D ∧ findR C' = findR D := fun C' hh => by
      have h1 : findE C' = findE D := by rw [findE, findE, hh]
      exact ⟨h1, by rw [findR, findR, second, second, h1, hh]⟩
    obtain ⟨e1, e2⟩ := e C hS
    obtain ⟨f1, f2⟩ := run_read h hr a he
    exact ⟨e1.trans f1, Or.inl (e2.trans f2)⟩
end Rt
end Go.Proofs.Ytponmdacphapnaa
