/-
  The arena's IDs.
-/
import Derived.Test.YtnjdcpbaippdlaaArI
import Derived.Test.YtnjdcpbaippdlaaArS
namespace Go.Proofs.Ytnjdcpbaippdlaa
open Go Go.RowKit Go.Maps Go.MuLone
set_option linter.unusedSimpArgs false
set_option linter.unusedVariables false

theorem clipU_any (w : World) (a : Option Addr) (n c : Nat) (h : n ≤ c) : Calls Try.prog 19 #[.slice a n c] w fun e w' => e = .returned (.slice a n n) ∧ w = w' := by
  have hnc : (n : Int) ≤ (c : Int) := by omega
  have h0 : (0 : Int) ≤ (n : Int) := Int.natCast_nonneg _
  go_enter Try.func19, Try.ntmps19
  go_wp2
  go_ret
  exact ⟨rfl, rfl⟩
def ArIds (w : World) (g b : Nat) (O : Nat → Prop) (A : Ar.Arena) (e : Ending) (w' : World) : Prop :=
  ∃ a, e = .returned (.slice a A.its.length A.its.length) ∧ Rd w' a (ints .u32 (Ar.ids A.its)) ∧ (∀ g' o, a = some ⟨g', o, none⟩ → w.heap.size ≤ g' ∧ g' < w'.heap.size) ∧ ArAt w' g b 0 A O ∧ Touch O w w'
/-- the keys of the map, in whatever order they come, sorted, in new memory -/
theorem sortedA_any {w : World} {g b : Nat} {lk : Int} {A : Ar.Arena} {O : Nat → Prop} (h : ArAt w g b lk A O) (hok : Ar.Ok A) (hn : A.its.length ≤ 1000000000) :
    Calls Try.prog 20 #[.func (.func 30) #[] #[.pointer (some ⟨w.heap.size, 0, none⟩)]] (w.alloc (.cells #[.map (some b)] 47)) fun e w' =>
      ∃ a c, e = .returned (.slice a A.its.length c) ∧ A.its.length ≤ c ∧ Rd w' a (ints .u32 (Ar.ids A.its)) ∧ (∀ g' o, a = some ⟨g', o, none⟩ → w.heap.size ≤ g' ∧ g' < w'.heap.size) ∧ Touch No w w' := by
  obtain ⟨D, hD, hM⟩ := h.map
  have hp := ids_perm hD hM hok.up hok.ids
  have hD' : (w.alloc (.cells #[.map (some b)] 47)).ownsMap Try.prog 31 asHeld b A.puts D := ownsMap_touch hD ((Touch.refl No w).alloc _) (fun f => f)
  have hsz : Maps.size D ≤ 1000000000 := by
    obtain ⟨es, rfl, _⟩ := hD.keysOf
    have := hp.length_eq
    simp only [Ar.ids, intKeys, List.length_map] at this
    show es.length ≤ _
    omega
  refine (sorted_any _ w.heap.size b A.puts D (by simp) (by rw [cell_new]; rfl) hD' hsz).mono ?_
  rintro e w' ⟨v, ss, rfl, hs, hrow, hnil, hb⟩
  have hss : ss.mergeSort (fun x y => decide (x ≤ y)) = Ar.ids A.its := Ar.sort_ids hok.up (hs.trans hp.symm)
  have hlen : ss.length = A.its.length := by rw [(hs.trans hp.symm).length_eq]; simp [Ar.ids]
  have hO : Own w' (w.alloc (.cells #[.map (some b)] 47)).heap.size 31 v (ints .u32 (Ar.ids A.its)) := by
    unfold Own
    rw [hss, hlen] at hrow
    rw [show (ints .u32 (Ar.ids A.its)).length = A.its.length by simp [ints, Ar.ids]]
    exact hrow
  obtain ⟨a, c, rfl, hc, hr, hbl, _⟩ := hO.form
  have hl2 : (ints .u32 (Ar.ids A.its)).length = A.its.length := by simp [ints, Ar.ids]
  rw [hl2] at hc ⊢
  refine ⟨a, c, rfl, hc, hr, fun g' o e => ?_, ?_⟩
  · obtain ⟨h1, _, _, h2⟩ := hbl _ e
    have h1' : w.heap.size + 1 ≤ g' := by rw [size_alloc] at h1; exact h1
    exact ⟨by omega, h2⟩
  · exact ((Touch.refl No w).alloc _).trans ((Touch.of_below hb).mono (fun k hk hB => absurd hk (Nat.not_lt.2 hB)))

set_option maxRecDepth 100000 in
set_option maxHeartbeats 4000000 in
theorem arIDs_in {w : World} {g b : Nat} {A : Ar.Arena} {O : Nat → Prop} (h : ArAt w g b 0 A O) (hok : Ar.Ok A) (hlt : ∀ k, O k → k < w.heap.size) (hn : A.its.length ≤ 1000000000) : Calls Try.prog 11 #[.pointer (some ⟨g, 0, none⟩)] w (ArIds w g b O A) := by
  have H := Lib.hid h
  have HOK := Lib.hid hok
  have HLT := Lib.hid hlt
  obtain ⟨w1, hw1⟩ : ∃ w1, w1 = w.setCell ⟨g, 0, none⟩ (.int .i32 1) := ⟨_, rfl⟩
  have HL := Lib.hid (h.lock 1)
  rw [← hw1] at HL
  have L1 := Lib.hid (lock_free muLib ⟨g, 0, none⟩ w h.c0 (h.row.soft 0))
  rw [← hw1] at L1
  have c6 := HL.out.1.c6
  have hg : g < w1.heap.size := HL.out.1.row.lt
  clear h hw1 hok hlt
  go_enter_defers Try.func11, Try.ntmps11
  go_wp2_with fail
  refine (there_any H.out).mono ?_
  rintro e w' ⟨rfl, rfl⟩
  go_wp2_with fail
  refine L1.out.mono ?_
  rintro e w1 ⟨rfl, rfl⟩
  go_wp2_with fail
  refine (keys_any (some b) w1).mono ?_
  rintro e w2 ⟨rfl, rfl⟩
  go_wp2_with fail
  refine (sortedA_any HL.out.1 HOK.out hn).mono ?_
  rintro e w3 ⟨a, c, rfl, hc, hr, hb, t3⟩
  have HR := Lib.hid hr
  have HB := Lib.hid hb
  have HT := Lib.hid t3
  clear hr hb t3
  go_wp2_with fail
  refine (clipU_any w3 a _ c hc).mono ?_
  rintro e w4 ⟨rfl, rfl⟩
  have A3 := Lib.hid (HL.out.1.no HT.out)
  go_wp2_with fail
  refine leaves_cons (f := 16) (args := #[.pointer (some ⟨g, 0, none⟩)]) (by simp) (by simp [go_sem]) ?_
  refine (unlock_deferred muLib ⟨g, 0, none⟩ .returning _ A3.out.c0 (A3.out.row.soft 0)).mono ?_
  rintro e u' w'' ⟨rfl, rfl, rfl⟩
  have tl := (A3.out.lock 0)
  have t0 := HL.out.2
  have t1 : Touch O w w3 := t0.trans (HT.out.mono (fun k _ f => f.elim))
  refine ⟨_, results_tmp rfl _ _ _, a, rfl, HR.out.touch tl.2 (fun b' o e _ hO => ?_), fun g' o e => ?_, tl.1, t1.trans tl.2⟩
  · have h1 := (HB.out b' o e).1
    have h2 := HLT.out b' hO
    have h3 := t0.size
    omega
  · obtain ⟨h1, h2⟩ := HB.out g' o e
    have h3 := t0.size
    have h4 := tl.2.size
    exact ⟨by omega, by omega⟩

theorem Ars.ids {w0 w : World} {g : Nat} {A : Ar.Arena} {E : List Part} (h : Ars w0 w g A E) (hn : A.its.length ≤ 1000000000) :
    Calls Try.prog 11 #[.pointer (some ⟨g, 0, none⟩)] w fun e w' => ∃ a, e = .returned (.slice a A.its.length A.its.length) ∧ Ars w0 w' g A (Part.rd2 a (ints .u32 (Ar.ids A.its)) none [] :: E) := by
  obtain ⟨O, ⟨⟨b, ha⟩, hok, hlt⟩, _, _, hf⟩ := Sl.step2 h
  refine (arIDs_in ha hok hlt hn).mono fun e w' ⟨a, he, r1, b1, h1, h2⟩ => ⟨a, he, hf w' [_, _] ⟨h2, fun k => O k ∨ (w.heap.size ≤ k ∧ k < w'.heap.size), ⟨O, fun k => w.heap.size ≤ k ∧ k < w'.heap.size, ⟨⟨b, h1⟩, hok, fun k hk => Nat.lt_of_lt_of_le (hlt k hk) h2.size⟩, one_al ⟨r1, Rd.nil _ _, b1, (fun g o e => by cases e), fun k hk => hk.2⟩, fun k hk hk2 => by have := hlt k hk; omega, fun k => Or.inl, fun k => Or.inr⟩, fun k hk => hk.imp (fun h => h) And.left⟩⟩
end Go.Proofs.Ytnjdcpbaippdlaa
