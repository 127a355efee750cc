/-
  The statements' own helpers for a map of pages, third part: ids, took, alive.
-/
import Derived.Test.YtjmkfpiahnibkaaDoorFreeList
namespace Go.Proofs.YtjmkfpiahnibkaaDoor
open Go.RowKit

/-- the pages of a list -/
def inn (L : List Nat) : Nat → Bool := fun p => L.contains p
theorem inn_congr {L M : List Nat} (h : (L.all (M.contains ·) && M.all (L.contains ·)) = true) : inn L = inn M := by
  simp only [Bool.and_eq_true, List.all_eq_true, List.contains_eq_mem, decide_eq_true_eq] at h
  funext p
  simp only [inn, List.contains_eq_mem, decide_eq_decide]
  exact ⟨h.1 p, h.2 p⟩
theorem lst_inn {L : List Nat} (hs : L.Pairwise (· < ·)) (hm : ∀ p ∈ L, p < 4096) : Fr.lst (inn L) = L :=
  Fr.sorted_ext _ _ (Fr.lst_sorted _) hs (fun p => by
    rw [Fr.mem_lst]; simp only [inn, List.contains_eq_mem, decide_eq_true_eq]
    exact ⟨fun h => h.2, fun h => ⟨hm p h, h⟩⟩)
theorem upTo_inn (first n : Nat) : upTo first n = inn (List.range' first (n - first)) := by
  funext p
  simp only [upTo, inn, List.contains_eq_mem, List.mem_range'_1]
  rw [Bool.eq_iff_iff]
  simp only [Bool.and_eq_true, decide_eq_true_eq]
  omega
theorem sub_inn {L T M : List Nat} (h : (L.all (fun p => T.contains p || M.contains p) && M.all (fun p => L.contains p && !T.contains p)) = true) : Fr.sub (inn L) T = inn M := by
  simp only [Bool.and_eq_true, List.all_eq_true, List.contains_eq_mem, decide_eq_true_eq, Bool.or_eq_true, Bool.not_eq_true', decide_eq_false_iff_not] at h
  funext p
  simp only [Fr.sub, inn, List.contains_eq_mem]
  rw [Bool.eq_iff_iff]
  simp only [Bool.and_eq_true, decide_eq_true_eq, Bool.not_eq_true', decide_eq_false_iff_not]
  constructor
  · rintro ⟨h1, h2⟩
    rcases h.1 p h1 with h3 | h3
    · exact absurd h3 h2
    · exact h3
  · intro h1; exact h.2 p h1
theorem add_inn (L T : List Nat) : Fr.add (inn L) T = inn (L ++ T) := by
  funext p
  simp [Fr.add, inn]
theorem flip_inn {L M : List Nat} {p : Nat} (h : (L.contains p && L.all (fun q => q == p || M.contains q) && M.all (fun q => L.contains q && !(q == p))) = true) : Fr.flip (inn L) p = inn M := by
  simp only [Bool.and_eq_true, List.all_eq_true, List.contains_eq_mem, decide_eq_true_eq, Bool.or_eq_true, Bool.not_eq_true', beq_iff_eq, beq_eq_false_iff_ne] at h
  obtain ⟨⟨h1, h2⟩, h3⟩ := h
  funext q
  simp only [Fr.flip, inn, List.contains_eq_mem]
  by_cases e : q = p
  · subst e
    have : q ∉ M := fun hm => (h3 q hm).2 rfl
    simp [h1, this]
  · rw [if_neg e, decide_eq_decide]
    exact ⟨fun hq => (h2 q hq).resolve_left e, fun hq => (h3 q hq).1⟩
theorem take_inn {L : List Nat} (hs : L.Pairwise (· < ·)) (hm : ∀ p ∈ L, p < 4096) (n : Nat) : Fr.sub (inn L) (L.take n) = inn (L.drop n) := by
  have hn : L.Nodup := hs.imp (fun h => Nat.ne_of_lt h)
  have hL := lst_inn hs hm
  have h1 := Fr.lst_sub_take (inn L) n
  rw [hL] at h1
  funext p
  have h2 : p ∈ Fr.lst (Fr.sub (inn L) (L.take n)) ↔ p ∈ L.drop n := by rw [h1]
  rw [Fr.mem_lst] at h2
  simp only [inn, List.contains_eq_mem]
  rw [Bool.eq_iff_iff, decide_eq_true_eq, ← h2]
  constructor
  · intro h3
    refine ⟨hm p ?_, h3⟩
    simp only [Fr.sub, inn, Bool.and_eq_true, List.contains_eq_mem, decide_eq_true_eq] at h3
    exact h3.1
  · exact fun h => h.2

set_option maxHeartbeats 400000 in
theorem ids_any (w : World) (v : Value) :
    Calls Tryd.prog 18 #[v] w fun e w' => e = .returned v ∧ w = w' := by
  go_enter Tryd.func18, Tryd.ntmps18
  go_wp2
  go_ret
  exact ⟨rfl, rfl⟩

def TookPost (w : World) (b first last : Nat) (L : List Nat) (e : Ending) (w' : World) : Prop :=
  e = .returned (.bool true) ∧ Touch (One b) w w' ∧ MapAt w' b first last (inn L)

set_option maxRecDepth 100000 in
set_option maxHeartbeats 1000000 in
theorem took_ok (w : World) (b first last : Nat) (L : List Nat) (n : Nat) (q : Int) (a : Option Addr) (m cap : Nat) (h : MapAt w b first last (inn L)) (hT : TabAt w) (hs : L.Pairwise (· < ·)) (hm : ∀ p ∈ L, p < 4096) (hn : n ≤ L.length) (hq : q = (n : Nat)) (hmn : m = n)
    (hr : Rd w a (nums .u32 (L.take n))) (hoff : ∀ c o, a = some ⟨c, o, none⟩ → c ≠ b) :
    Calls Tryd.prog 24 #[.pointer (some ⟨b, 0, none⟩), .int .i64 q, .slice a m cap] w (TookPost w b first last (L.drop n)) := by
  subst hq
  subst hmn
  have hL := lst_inn hs hm
  have Htake := Lib.hid (take_ok w b first last (inn L) m h hT (by rw [hL]; exact hn))
  have Hn := Lib.hid (show (L.take m).length = m by rw [List.length_take]; omega)
  have hn4 : m ≤ 4096 := by have := Fr.lst_length_le (inn L); rw [hL] at this; omega
  have HL := Lib.hid hL
  have Hti := Lib.hid (take_inn hs hm m)
  have Hr := Lib.hid hr
  have Hoff := Lib.hid hoff
  clear h hT hs hm hL hr hoff hn
  go_enter Tryd.func24, Tryd.ntmps24
  go_wp2_with fail
  refine (Htake.out).mono ?_
  rintro e w1 ⟨v, rfl, hown, ht1, hm1⟩
  rw [HL.out] at hown hm1
  rw [Hti.out] at hm1
  obtain ⟨a1, cap1, rfl, _, hrd, _, _⟩ := hown.form' (n := m) (by rw [nums_length]; exact Hn.out)
  have Hm1 := Lib.hid hm1; clear hm1
  have Ht1 := Lib.hid ht1; clear ht1
  have Hrd := Lib.hid hrd; clear hrd hown
  have Hrd2 : Hid (Rd w1 a (nums .u32 (L.take m))) := Hr.out.touch Ht1.out (fun c o e _ => Hoff.out c o e)
  go_wp2_with fail
  refine (sameIds_eq w1 a1 a m cap1 cap (L.take m) (L.take m) Hn.out Hn.out (by omega) Hrd.out Hrd2.out).mono ?_
  rintro e w2 ⟨rfl, ht2⟩
  have Ht2 := Lib.hid ht2; clear ht2
  have hsame : sameIds (L.take m) (L.take m) = true := by simp [sameIds]
  rw [hsame]
  clear hsame
  go_wp2
  go_ret
  exact ⟨rfl, Ht1.out.trans Ht2.out.no, Hm1.out.touch Ht2.out (fun f => f)⟩
end Go.Proofs.YtjmkfpiahnibkaaDoor
