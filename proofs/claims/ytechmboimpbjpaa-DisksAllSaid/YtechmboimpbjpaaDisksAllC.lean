/-
  DisksAll proved: with all kept, and none torn, there is left what is seen; with none kept what was seen at the last Sync: for every input. No condition of our own.
-/
import Derived.Test.YtechmboimpbjpaaPlain03
import Derived.Test.YtechmboimpbjpaaDisksAllW
import Derived.Test.YtechmboimpbjpaaOpen03
namespace Go.Proofs.Ytechmboimpbjpaa.disksAll
open Go.ChangeShapes Go.WideShapes Go.ChangeAt Go.RowKit

theorem contract (H : Type) (enc : TypeId × Value → H) (W : World) (base : Nat) (args : Array Value) (ds gs : List (DataW H)) (before : List MemPlace)
    (hval : ∀ (j : Nat) t v, Try.f9.params[j]? = some t → args[j]? = some v → Value.okWide Try.prog W .any base t v)
    (hW : DataW.Whole enc Try.prog Try.f9.params.toList Rows.disksAllSpec.vars false W args.toList ds gs before)
    (hz : ∀ n ∈ DataW.weightsEach Try.prog Try.f9.params.toList ds, n ≤ reachBytes) :
    Calls Try.prog 9 args W fun e W' => ∃ v, e = .returned v ∧ Rows.disksAllSpec.post enc Try.prog Try.f9 false true false false W args v W' := by
  have hW' := hW
  obtain ⟨p, q, hA0, hV, rfl, hfz, hnd⟩ := hW
  have hA : DataW.TrodAll enc Try.prog W 0 (fun _ => true) true Try.f9.params.toList args.toList ds p := hA0
  rw [Try.params9] at hA hval hz
  obtain ⟨v0, vs0, d0, ds0, p0, q0, hargs, rfl, rfl, h0, r0⟩ := trodAll_cons hA
  obtain ⟨v1, vs1, d1, ds1, p1, q1, rfl, rfl, rfl, h1, r1⟩ := trodAll_cons r0
  obtain ⟨rfl, rfl, rfl⟩ := trodAll_nil r1
  obtain rfl : args = #[v0, v1] := by cases args; simp_all
  obtain ⟨rfl, rfl⟩ := trodVars_none hV
  obtain ⟨a0, len0, cap0, rfl⟩ := okWide_slice Try.underlying47 (hval 0 47 v0 rfl rfl)
  obtain ⟨fuel0, hf0⟩ := h0
  obtain ⟨ad0, n0, cap'0, acts0, hcs0, hlen0, hmax0, hacts0⟩ := open_deeds hf0 (fun k hk => hz k (by simp only [DataW.weightsEach, List.mem_append]; exact Or.inl hk))
  simp only [Value.cells, List.cons.injEq, Value.slice.injEq, and_true] at hcs0
  obtain ⟨rfl, rfl, rfl⟩ := hcs0
  obtain ⟨a1, len1, cap1, rfl⟩ := okWide_slice Try.underlying47 (hval 1 47 v1 rfl rfl)
  obtain ⟨fuel1, hf1⟩ := h1
  obtain ⟨ad1, n1, cap'1, acts1, hcs1, hlen1, hmax1, hacts1⟩ := open_deeds hf1 (fun k hk => hz k (by simp only [DataW.weightsEach, List.mem_append]; exact Or.inr (Or.inl hk)))
  simp only [Value.cells, List.cons.injEq, Value.slice.injEq, and_true] at hcs1
  obtain ⟨rfl, rfl, rfl⟩ := hcs1
  refine (disksAll_walk W a0 len0 cap0 acts0 hlen0 hmax0 hacts0 a1 len1 cap1 acts1 hlen1 hmax1 hacts1).mono fun e W' ⟨he, ht⟩ => ?_
  subst he
  exact ⟨_, rfl, law_post laidOut (by kernel_rfl) rfl (by kernel_rfl) Try.underlying4 hW' rfl (ht.below (Nat.le_refl _) (fun _ _ f => f))⟩

set_option maxRecDepth 100000 in
theorem lifted (os : Os) (started : os.Started) (H : Type) (enc : TypeId × Value → H) (F : Stop.Interp) :
    ReturnsInHanded {} Try.checked os 9 .any ((OpenSpec.ofChange Rows.disksAllSpec).preRow enc Try.prog Try.f9 Rows.disksAllRow.domain false Rows.disksAllRow.laid) (((OpenSpec.ofChange Rows.disksAllSpec).at F).post enc Try.prog Try.f9 false true false false) := by
  obtain ⟨places, hx⟩ : ∃ places, DataW.whole enc Try.prog ((World.holding Try.prog os ⟨#[], #[], []⟩).forCall (fun _ _ => 0) ⟨#[], #[.slice none 0 0, .slice none 0 0], []⟩).memory Try.f9.params.toList Rows.disksAllSpec.vars false #[.slice none 0 0, .slice none 0 0].toList 8 = some ([.nil, .nil], [], places) := ⟨[], by kernel_rfl⟩
  refine returnsInHanded_of_row (C := Try.checked) (s := OpenSpec.ofChange Rows.disksAllSpec) own started (by kernel_rfl) Try.func9
    (witness_row_at (enc := enc) (C := Try.checked) false (World.holding Try.prog os ⟨#[], #[], []⟩) #[.slice none 0 0, .slice none 0 0] rfl (by kernel_rfl) (by kernel_rfl) (by kernel_rfl)
      (OpenSpec.preRow_of_cond 8 hx (by kernel_rfl) (fun k hk => by cases hk) (by kernel_rfl) (laidMet_of_run' 8 (by kernel_rfl) (by kernel_rfl)))) ?_
  intro W base args ds gs before hval hW _ _ hz _ _ _
  have hgs : gs = [] := by obtain ⟨_, _, _, hV, _⟩ := hW; exact (trodVars_none hV).1
  subst hgs
  rw [List.append_nil, show (OpenSpec.ofChange Rows.disksAllSpec).bare.plain.varTypes Try.checked.prog = [] from rfl, List.append_nil] at hz
  exact contract H enc W base args ds [] before hval hW (fun n hn => by simpa using List.all_eq_true.1 hz n hn)

theorem said : Rows.DisksAllSaid :=
  OpenClaim.holds_of_cond 9 Try.f9 rfl rfl rfl rfl rfl rfl rfl ⟨rfl, rfl, rfl, rfl, rfl⟩ rfl rfl rfl rfl rfl (by kernel_rfl) Try.func9 (by kernel_rfl)
    (of_decide_eq_true (by kernel_rfl)) (by unfold Func.isWrapper; first | (rw [if_pos (by decide +kernel)]; kernel_rfl) | (rw [if_neg (by decide +kernel)]; exact ⟨rfl, rfl⟩))
    (fun os started H enc _ F => by rw [OpenClaim.pre_eq_preRow]; exact lifted os started H enc F)
end Go.Proofs.Ytechmboimpbjpaa.disksAll
