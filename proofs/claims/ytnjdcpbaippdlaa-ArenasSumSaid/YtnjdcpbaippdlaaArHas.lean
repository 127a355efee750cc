/-
  A map from ids to numbers beside an arena: what ArenasSum writes down.
-/
import Derived.Test.YtnjdcpbaippdlaaArL
import Derived.Test.YtnjdcpbaippdlaaArJ
import Derived.Test.YtnjdcpbaippdlaaArenasSumP
import Derived.Maps.OwnOps
import Derived.Maps.OwnSet
namespace Go.Proofs.Ytnjdcpbaippdlaa
open Go Go.RowKit Go.Maps
set_option linter.unusedSimpArgs false
set_option linter.unusedVariables false

/-- the map says H -/
def HasOf (D : DataW Unit) (H : Nat → Nat) : Prop := IsMap D ∧ ∀ x : Nat, D.atKey (.int .u32 (x : Nat)) (.lit (.int .i64 0)) = .lit (.int .i64 (H x : Nat))
theorem HasOf.nil : HasOf (.map []) (fun _ => 0) := ⟨isMap_empty, fun x => by simp [DataW.atKey]⟩
theorem HasOf.put {D : DataW Unit} {H H' : Nat → Nat} (h : HasOf D H) (x v : Nat) (hH : ∀ y, H' y = if y = x then v else H y) : HasOf (D.put (.int .u32 (x : Nat)) (.lit (.int .i64 (v : Nat)))) H' := by
  refine ⟨h.1.put _ _, fun y => ?_⟩
  by_cases e : y = x
  · subst e
    rw [atKey_put_same h.1 (isKey_id _), hH, if_pos rfl]
  · rw [atKey_put_other (by intro e2; simp at e2; omega), h.2 y, hH, if_neg e]
theorem HasOf.look {D : DataW Unit} {H : Nat → Nat} (h : HasOf D H) {x : Nat} {c : Int} (hc : D.atKey (.int .u32 (x : Nat)) (.lit (.int .i64 0)) = .lit (.int .i64 c)) : c = (H x : Nat) := by
  rw [h.2 x] at hc
  simpa using hc.symm
theorem HasOf.congr {D : DataW Unit} {H H' : Nat → Nat} (h : HasOf D H) (e : ∀ x, H' x = H x) : HasOf D H' := ⟨h.1, fun x => by rw [e]; exact h.2 x⟩
theorem zeroI (w : World) : (zeroValue 3).run Try.prog w = .ok (.int .i64 0) w := by kernel_rfl
theorem ownsMap_touchI {F : Nat → Prop} {w w' : World} {b n : Nat} {D : DataW Unit} (h : w.ownsMap Try.prog 31 (plainElem Try.prog 3) b n D) (t : Touch F w w') (hF : ¬ F b) : w'.ownsMap Try.prog 31 (plainElem Try.prog 3) b n D := by
  have hlt := h.lt
  obtain ⟨es, clock, hb, r⟩ := h
  exact ⟨es, clock, by rw [t.block b hlt hF]; exact hb, r⟩
/-- the map at b, written k times at most, says H -/
def Part.has (b : Nat) (H : Nat → Nat) (k : Nat) : Part where
  P w O := (∃ n D, n ≤ k ∧ w.ownsMap Try.prog 31 (plainElem Try.prog 3) b n D ∧ HasOf D H) ∧ O b ∧ ∀ i, O i → i < w.heap.size
  stable := fun {F w w' O} ⟨⟨n, D, h1, h2, h3⟩, h4, h5⟩ t hF => ⟨⟨n, D, h1, ownsMap_touchI h2 t (hF b h4), h3⟩, h4, fun i hi => Nat.lt_of_lt_of_le (h5 i hi) t.size⟩
  lt := fun {w O} h => h.2.2
section
variable {w0 w w' : World} {g b k : Nat} {A : Ar.Arena} {H : Nat → Nat} {E : List Part}
theorem Ars.hasIn (h : Ars w0 w g A (Part.has b H k :: E)) : ∃ n D, n ≤ k ∧ w.ownsMap Try.prog 31 (plainElem Try.prog 3) b n D ∧ HasOf D H := by
  obtain ⟨O, h, _⟩ := Sl.mem h (List.mem_cons_of_mem _ List.mem_cons_self)
  exact h.1
/-- a look at it, wherever the walk is -/
theorem Ars.hasLook (h : Ars w0 w g A E) (hm : Part.has b H k ∈ E) (x : Nat) (hx : x < 4294967296) (v : Nat) (hv : H x = v) : (Instr.lookup 30 (.map (some b)) (.int .u32 (x : Nat)) false).run Try.prog w = .ok (.int .i64 (v : Nat)) w := by
  obtain ⟨O, ⟨⟨n, D, hn, hown, hD⟩, _⟩, _⟩ := Sl.mem h (List.mem_cons_of_mem _ hm)
  obtain ⟨c, hrun, hat, _⟩ := hown.lookup_int keyU32 Try.underlying30 Try.underlying3 (zeroI w) (keyOf_id hx)
  rw [hrun, hD.look hat, hv]
theorem Ars.hasPut (h : Ars w0 w g A (Part.has b H k :: E)) {n' : Nat} {D' : DataW Unit} {H' : Nat → Nat} (hn : n' ≤ k + 1) (hD : HasOf D' H') (ho : w'.ownsMap Try.prog 31 (plainElem Try.prog 3) b n' D') (t : Touch (fun x => x = b) w w') : Ars w0 w' g A (Part.has b H' (k + 1) :: E) := by
  obtain ⟨O, ⟨h1, hb, hlt⟩, _, _, hf⟩ := Sl.step2 (Sl.perm h (List.Perm.swap _ _ _))
  refine Sl.perm (hf w' [Part.has b H' (k + 1)] ⟨t.mono (fun i _ e => by rw [e]; exact hb), fun i => i = b, one_al ⟨⟨n', D', hn, ho, hD⟩, rfl, fun i e => by rw [e]; exact Nat.lt_of_lt_of_le (hlt b hb) t.size⟩, fun i e => Or.inl (by rw [e]; exact hb)⟩) (List.Perm.swap _ _ _)
/-- it is written -/
theorem Ars.hasSet (h : Ars w0 w g A (Part.has b H k :: E)) (hk : k < 1000000) (x : Nat) (hx : x < 4294967296) (z : Int) (v : Nat) (hz : z = (v : Nat)) (hv : v < 1000000000) : ∃ w', (Instr.mapUpdate 30 (.map (some b)) (.int .u32 (x : Nat)) (.int .i64 z)).run Try.prog w = .ok () w' ∧ ∀ H', (∀ y, H' y = if y = x then v else H y) → Ars w0 w' g A (Part.has b H' (k + 1) :: E) := by
  subst hz
  obtain ⟨n, D, hn, hown, hD⟩ := h.hasIn
  obtain ⟨w', hrun, hown', hgrow⟩ := hown.update keyU32 Try.underlying30 (by unfold maxLen; omega) (val := .int .i64 (v : Nat)) (keyOf_id hx) (plainElem_int Try.underlying3 (WalkArith.wf_i64 (by omega)))
  exact ⟨w', hrun, fun H' hH => h.hasPut (by omega) (hD.put x v hH) hown' ((Touch.refl _ w).grown hgrow (fun i e _ => by cases e; rfl))⟩
theorem Ars.hasAs {H' : Nat → Nat} {k' : Nat} (h : Ars w0 w g A (Part.has b H k :: E)) (hk : k ≤ k') (e : ∀ x, H' x = H x) : Ars w0 w g A (Part.has b H' k' :: E) := by
  have : H' = H := funext e
  subst this
  obtain ⟨O, ⟨⟨n, D, h1, h2, h3⟩, hb, hlt⟩, _, _, hf⟩ := Sl.step2 (Sl.perm h (List.Perm.swap _ _ _))
  exact Sl.perm (hf w [Part.has b H' k'] ⟨Touch.refl _ w, O, one_al ⟨⟨n, D, Nat.le_trans h1 hk, h2, h3⟩, hb, hlt⟩, fun i h => Or.inl h⟩) (List.Perm.swap _ _ _)
theorem Ars.hasNew (h : Ars w0 w g A E) (ho : w'.ownsMap Try.prog 31 (plainElem Try.prog 3) w.heap.size 0 (.map [] : DataW Unit)) (t : Touch No w w') (hs : w.heap.size < w'.heap.size) : Ars w0 w' g A (Part.has w.heap.size (fun _ => 0) 0 :: E) :=
  h.push ⟨t, fun i => i = w.heap.size, ⟨⟨0, _, Nat.le_refl _, ho, HasOf.nil⟩, rfl, fun i e => by rw [e]; exact hs⟩, fun i e => by rw [e]; exact Nat.le_refl _⟩
end
end Go.Proofs.Ytnjdcpbaippdlaa
