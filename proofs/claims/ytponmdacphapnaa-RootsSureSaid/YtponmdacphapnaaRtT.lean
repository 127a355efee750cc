/-
  The plain law of roots: root upon root goes into the sectors by turns; one that turned is told.
-/
import Derived.Test.YtponmdacphapnaaRtD
namespace Go.Proofs.Ytponmdacphapnaa
open Go Go.RowKit
namespace Rt
theorem at_set {l : List Dk.Sec} {n : Nat} {s : Dk.Sec} (h : n < l.length) : Dk.at_ (l.set n s) n = s := by
  rw [Dk.at_, List.getD_eq_getElem?_getD, List.getElem?_set_self h]; rfl
theorem at_set_ne {l : List Dk.Sec} {n k : Nat} {s : Dk.Sec} (h : n ≠ k) : Dk.at_ (l.set n s) k = Dk.at_ l k := by
  rw [Dk.at_, Dk.at_, List.getD_eq_getElem?_getD, List.getD_eq_getElem?_getD, List.getElem?_set_ne h]
/-- root upon root, of epochs 1 .. i -/
structure Alt (D : Dk.Disk) (i : Nat) : Prop where
  len : D.seen.length = 16
  one : 1 ≤ i → Holds (Dk.at_ D.seen ((i - 1) % 2)) ⟨i, 0, 0⟩
  two : 2 ≤ i → Holds (Dk.at_ D.seen (i % 2)) ⟨i - 1, 0, 0⟩
  no0 : i = 0 → Clear (Dk.at_ D.seen 0)
  no1 : i ≤ 1 → Clear (Dk.at_ D.seen 1)
theorem alt_new : Alt (Dk.new 16) 0 := ⟨rfl, fun h => by omega, fun h => by omega, fun _ => clear_new, fun _ => clear_new⟩
theorem ep_ok {i : Nat} (h : i < 4294967296) : Root.Ok ⟨i, 0, 0⟩ := ⟨h, (by decide : 0 < 4294967296), (by decide : 0 < 4294967296)⟩
theorem alt_find {D : Dk.Disk} {i : Nat} (h : Alt D i) (hi : i < 100) : (findE D = 0 ∨ findE D = 7) ∧ (findE D = 0 → (findR D).epoch = i) ∧ findN D = i % 2 := by
  have h8 : 8 ≤ D.seen.length := by rw [h.len]; decide
  have o1 : Root.Ok ⟨i, 0, 0⟩ := ep_ok (by omega)
  have o2 : Root.Ok ⟨i - 1, 0, 0⟩ := ep_ok (by omega)
  by_cases c0 : i = 0
  · subst c0
    obtain ⟨e, n⟩ := find_none h8 (h.no0 rfl) (h.no1 (by omega))
    exact ⟨Or.inr e, fun e' => (by rw [e] at e'; cases e'), n⟩
  by_cases c1 : i = 1
  · subst c1
    obtain ⟨e, r, n⟩ := find_first h8 (h.one (by omega)) (h.no1 (by omega)) o1
    exact ⟨Or.inl e, fun _ => (by rw [r]), n⟩
  have a := h.one (by omega)
  have b := h.two (by omega)
  rcases Nat.mod_two_eq_zero_or_one i with hm | hm
  · have hm' : (i - 1) % 2 = 1 := by omega
    rw [hm'] at a
    rw [hm] at b ⊢
    obtain ⟨e, r, n⟩ := find_both h8 b a o2 o1
    dsimp only at r n
    rw [if_pos (by omega)] at r n
    exact ⟨Or.inl e, fun _ => (by rw [r]), n⟩
  · have hm' : (i - 1) % 2 = 0 := by omega
    rw [hm'] at a
    rw [hm] at b ⊢
    obtain ⟨e, r, n⟩ := find_both h8 a b o1 o2
    dsimp only at r n
    rw [if_neg (by omega)] at r n
    exact ⟨Or.inl e, fun _ => (by rw [r]), n⟩
theorem alt_step {D : Dk.Disk} {i : Nat} (h : Alt D i) (hi : i < 99) : wE D ⟨i + 1, 0, 0⟩ = 0 ∧ Alt (wD D ⟨i + 1, 0, 0⟩) (i + 1) := by
  obtain ⟨hE, hR, hN⟩ := alt_find h (by omega)
  have hw : wE D ⟨i + 1, 0, 0⟩ = 0 := by
    rw [wE, if_neg (by omega), if_neg (fun ⟨h1, h2⟩ => by
      have := hR h1
      dsimp only at h2
      omega)]
  have hd : wD D ⟨i + 1, 0, 0⟩ = Dk.sync (Dk.write (Dk.sync D) (i % 2) (put ⟨i + 1, 0, 0⟩)) := by rw [wD, hw, if_pos rfl, hN]
  have hs : (wD D ⟨i + 1, 0, 0⟩).seen = D.seen.set (i % 2) ⟨Dk.pad (put ⟨i + 1, 0, 0⟩), 0⟩ := by rw [hd]; rfl
  have hlt : i % 2 < D.seen.length := by rw [h.len]; omega
  refine ⟨hw, ⟨by rw [hs, List.length_set]; exact h.len, fun _ => ?_, fun h2 => ?_, fun h0 => by omega, fun h1 => ?_⟩⟩
  · rw [hs, Nat.add_sub_cancel, at_set hlt]; exact holds_pad
  · rw [hs, at_set_ne (by omega), Nat.add_sub_cancel]
    have := h.one (by omega)
    rwa [show (i - 1) % 2 = (i + 1) % 2 by omega] at this
  · rw [hs, at_set_ne (by omega)]
    exact h.no1 (by omega)
theorem alt_holds {D : Dk.Disk} {n : Nat} (h : Alt D n) (h2 : 2 ≤ n) (hn : n < 100) (s : Nat) (hs : s < 2) : ∃ r : Root, r.Ok ∧ Holds (Dk.at_ D.seen s) r := by
  rcases Nat.lt_or_ge ((s + n) % 2) 1 with c | c
  · exact ⟨⟨n - 1, 0, 0⟩, ep_ok (by omega), by have := h.two h2; rwa [show n % 2 = s by omega] at this⟩
  · exact ⟨⟨n, 0, 0⟩, ep_ok (by omega), by have := h.one (by omega); rwa [show (n - 1) % 2 = s by omega] at this⟩
/-- one sector that tells an error, the other one holding -/
theorem find_err {D : Dk.Disk} (h8 : 8 ≤ D.seen.length) {s : Nat} (hs : s < 2) (er : Nat) (hne : er ≠ 0) (he : sayE (Dk.at_ D.seen s) = er) (ho : sayE (Dk.at_ D.seen (1 - s)) = 0) : findE D = er := by
  have : s = 0 ∨ s = 1 := by omega
  rcases this with rfl | rfl
  · rw [findE, if_neg (by omega), he, if_pos hne]
  · have ho : sayE (Dk.at_ D.seen 0) = 0 := ho
    rw [findE, if_neg (by omega), if_neg (fun h => h ho), he, if_pos hne]
theorem turned_not (r : Root) (p v : Nat) : nought ((put r).set p v) = false := by
  match p with
  | 0 => simp [nought, put, head, mark]
  | p + 1 => simp [nought, put, head, mark]
theorem bad_find {D : Dk.Disk} {n s : Nat} (h : Alt D n) (h2 : 2 ≤ n) (hn : n < 100) (hs : s < 2) : findE (Dk.bad D s) = 12 := by
  obtain ⟨r, hr, h1⟩ := alt_holds h h2 hn (1 - s) (by omega)
  have hl : s < D.seen.length := by rw [h.len]; omega
  have hS : (Dk.bad D s).seen = D.seen.set s (Dk.badS (Dk.at_ D.seen s)) := rfl
  refine find_err (by rw [hS, List.length_set, h.len]; decide) hs 12 (by decide) ?_ ?_
  · rw [hS, at_set hl]; rfl
  · rw [hS, at_set_ne (by omega)]; exact (holds_say h1 hr).1
theorem rot_find {D : Dk.Disk} {n s p x : Nat} (h : Alt D n) (h2 : 2 ≤ n) (hn : n < 100) (hs : s < 2) (hp : p < 64) (hx : x < 256) (h0 : x ≠ 0) : findE (Dk.rot D s p x) = 4 ∨ findE (Dk.rot D s p x) = 11 := by
  obtain ⟨r, hr, h1⟩ := alt_holds h h2 hn (1 - s) (by omega)
  obtain ⟨q, hq, h3, h4⟩ := alt_holds h h2 hn s hs
  have hl : s < D.seen.length := by rw [h.len]; omega
  have hS : (Dk.rot D s p x).seen = D.seen.set s (Dk.turnS p x (Dk.at_ D.seen s)) := rfl
  obtain ⟨v, hv⟩ : ∃ v, (put q).getD p 0 ^^^ x = v := ⟨_, rfl⟩
  have hg : (put q).getD p 0 < 256 := by
    rw [List.getD_eq_getElem?_getD, List.getElem?_eq_getElem (by rw [put_length]; exact hp)]
    exact put_lt _ _ (List.getElem_mem _)
  have hv256 : v < 256 := by rw [← hv]; exact Nat.xor_lt_two_pow (n := 8) hg hx
  have hne : v ≠ (put q).getD p 0 := by
    rw [← hv]
    intro e
    exact h0 (xor_cancel (e.trans (Nat.xor_zero _).symm))
  have hsay : sayE (Dk.at_ (Dk.rot D s p x).seen s) = errOf ((put q).set p v) := by
    rw [hS, at_set hl, sayE]
    have e1 : (Dk.turnS p x (Dk.at_ D.seen s)).bad = 0 := h3
    have e2 : (Dk.turnS p x (Dk.at_ D.seen s)).b = (put q).set p v := by
      show Dk.turnB (Dk.at_ D.seen s).b p x = _
      rw [h4, Dk.turnB, hv]
    rw [e1, e2, if_neg (by decide), turned_not, if_neg (by decide)]
  have ho : sayE (Dk.at_ (Dk.rot D s p x).seen (1 - s)) = 0 := by
    rw [hS, at_set_ne (by omega)]; exact (holds_say h1 hr).1
  have hlen : 8 ≤ (Dk.rot D s p x).seen.length := by rw [hS, List.length_set, h.len]; decide
  rcases turned_err q hp hv256 hne with e | e
  · exact Or.inl (find_err hlen hs 4 (by decide) (hsay.trans e) ho)
  · exact Or.inr (find_err hlen hs 11 (by decide) (hsay.trans e) ho)
theorem wE_err {D : Dk.Disk} {er : Nat} {r : Root} (h : findE D = er) (h0 : er ≠ 0) (h7 : er ≠ 7) : wE D r = er := by rw [wE, h, if_pos ⟨h0, h7⟩]
end Rt
end Go.Proofs.Ytponmdacphapnaa
