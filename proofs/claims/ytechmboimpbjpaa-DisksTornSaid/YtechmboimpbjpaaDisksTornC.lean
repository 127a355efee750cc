/-
  DisksTorn proved: of a write that is torn the first half is left, and of what was there ahead of it the other half; of one that is kept all, of one that is not nothing: for every input. No condition of our own.
-/
import Derived.Test.YtechmboimpbjpaaPlain03
import Derived.Test.YtechmboimpbjpaaDisksTornW
import Derived.Test.YtechmboimpbjpaaOpen03
namespace Go.Proofs.Ytechmboimpbjpaa.disksTorn
open Go.ChangeShapes Go.WideShapes Go.ChangeAt Go.RowKit

theorem contract (H : Type) (enc : TypeId × Value → H) (W : World) (base : Nat) (args : Array Value) (ds gs : List (DataW H)) (before : List MemPlace)
    (hval : ∀ (j : Nat) t v, Try.f4.params[j]? = some t → args[j]? = some v → Value.okWide Try.prog W .any base t v)
    (hW : DataW.Whole enc Try.prog Try.f4.params.toList Rows.disksTornSpec.vars false W args.toList ds gs before)
    (hz : ∀ n ∈ DataW.weightsEach Try.prog Try.f4.params.toList ds, n ≤ reachBytes) :
    Calls Try.prog 4 args W fun e W' => ∃ v, e = .returned v ∧ Rows.disksTornSpec.post enc Try.prog Try.f4 false true false false W args v W' := by
  have hW' := hW
  obtain ⟨p, q, hA0, hV, rfl, hfz, hnd⟩ := hW
  have hA : DataW.TrodAll enc Try.prog W 0 (fun _ => true) true Try.f4.params.toList args.toList ds p := hA0
  rw [Try.params4] at hA hval hz
  obtain ⟨v0, vs0, d0, ds0, p0, q0, hargs, rfl, rfl, h0, r0⟩ := trodAll_cons hA
  obtain ⟨v1, vs1, d1, ds1, p1, q1, rfl, rfl, rfl, h1, r1⟩ := trodAll_cons r0
  obtain ⟨rfl, rfl, rfl⟩ := trodAll_nil r1
  obtain rfl : args = #[v0, v1] := by cases args; simp_all
  obtain ⟨rfl, rfl⟩ := trodVars_none hV
  obtain ⟨a0', len0, cap0', rfl⟩ := okWide_slice Try.underlying28 (hval 0 28 v0 rfl rfl)
  obtain ⟨fuel0, hf0⟩ := h0
  obtain ⟨a0, cap0, zs0, hcs0, hl0, hm0, hr0, hwf0, _, _⟩ := open_list Try.underlying28 Try.underlying5 cells_u8 hf0
  simp only [Value.cells, List.cons.injEq, Value.slice.injEq, and_true] at hcs0
  obtain ⟨rfl, rfl, rfl⟩ := hcs0
  have hpos0 : ∀ z ∈ zs0, 0 ≤ z := fun z hz' => (bounds_u8 (hwf0 z hz')).1
  obtain ⟨a1', len1, cap1', rfl⟩ := okWide_slice Try.underlying28 (hval 1 28 v1 rfl rfl)
  obtain ⟨fuel1, hf1⟩ := h1
  obtain ⟨a1, cap1, zs1, hcs1, hl1, hm1, hr1, hwf1, _, _⟩ := open_list Try.underlying28 Try.underlying5 cells_u8 hf1
  simp only [Value.cells, List.cons.injEq, Value.slice.injEq, and_true] at hcs1
  obtain ⟨rfl, rfl, rfl⟩ := hcs1
  have hpos1 : ∀ z ∈ zs1, 0 ≤ z := fun z hz' => (bounds_u8 (hwf1 z hz')).1
  refine (disksTorn_walk W a0' zs0.length cap0' (zs0.map Int.toNat) (List.length_map _) (by unfold maxLen at hm0; omega) (by rw [← ints_nums hpos0]; exact hr0) (fun x hx => by obtain ⟨z, hz', rfl⟩ := List.mem_map.1 hx; have := bounds_u8 (hwf0 z hz'); omega) a1' zs1.length cap1' (zs1.map Int.toNat) (List.length_map _) (by unfold maxLen at hm1; omega) (by rw [← ints_nums hpos1]; exact hr1) (fun x hx => by obtain ⟨z, hz', rfl⟩ := List.mem_map.1 hx; have := bounds_u8 (hwf1 z hz'); omega)).mono fun e W' ⟨he, ht⟩ => ?_
  subst he
  exact ⟨_, rfl, law_post laidOut (by kernel_rfl) rfl (by kernel_rfl) Try.underlying4 hW' rfl (ht.below (Nat.le_refl _) (fun _ _ f => f))⟩

set_option maxRecDepth 100000 in
theorem lifted (os : Os) (started : os.Started) (H : Type) (enc : TypeId × Value → H) (F : Stop.Interp) :
    ReturnsInHanded {} Try.checked os 4 .any ((OpenSpec.ofChange Rows.disksTornSpec).preRow enc Try.prog Try.f4 Rows.disksTornRow.domain false Rows.disksTornRow.laid) (((OpenSpec.ofChange Rows.disksTornSpec).at F).post enc Try.prog Try.f4 false true false false) := by
  obtain ⟨places, hx⟩ : ∃ places, DataW.whole enc Try.prog ((World.holding Try.prog os ⟨#[], #[], []⟩).forCall (fun _ _ => 0) ⟨#[], #[.slice none 0 0, .slice none 0 0], []⟩).memory Try.f4.params.toList Rows.disksTornSpec.vars false #[.slice none 0 0, .slice none 0 0].toList 8 = some ([.nil, .nil], [], places) := ⟨[], by kernel_rfl⟩
  refine returnsInHanded_of_row (C := Try.checked) (s := OpenSpec.ofChange Rows.disksTornSpec) own started (by kernel_rfl) Try.func4
    (witness_row_at (enc := enc) (C := Try.checked) false (World.holding Try.prog os ⟨#[], #[], []⟩) #[.slice none 0 0, .slice none 0 0] rfl (by kernel_rfl) (by kernel_rfl) (by kernel_rfl)
      (OpenSpec.preRow_of_cond 8 hx (by kernel_rfl) (fun k hk => by cases hk) (by kernel_rfl) (laidMet_of_run' 8 (by kernel_rfl) (by kernel_rfl)))) ?_
  intro W base args ds gs before hval hW _ _ hz _ _ _
  have hgs : gs = [] := by obtain ⟨_, _, _, hV, _⟩ := hW; exact (trodVars_none hV).1
  subst hgs
  rw [List.append_nil, show (OpenSpec.ofChange Rows.disksTornSpec).bare.plain.varTypes Try.checked.prog = [] from rfl, List.append_nil] at hz
  exact contract H enc W base args ds [] before hval hW (fun n hn => by simpa using List.all_eq_true.1 hz n hn)

theorem said : Rows.DisksTornSaid :=
  OpenClaim.holds_of_cond 4 Try.f4 rfl rfl rfl rfl rfl rfl rfl ⟨rfl, rfl, rfl, rfl, rfl⟩ rfl rfl rfl rfl rfl (by kernel_rfl) Try.func4 (by kernel_rfl)
    (of_decide_eq_true (by kernel_rfl)) (by unfold Func.isWrapper; first | (rw [if_pos (by decide +kernel)]; kernel_rfl) | (rw [if_neg (by decide +kernel)]; exact ⟨rfl, rfl⟩))
    (fun os started H enc _ F => by rw [OpenClaim.pre_eq_preRow]; exact lifted os started H enc F)
end Go.Proofs.Ytechmboimpbjpaa.disksTorn
