/-
  Package frees by its own text: what each method does to the memory of a map that reads as a set of pages.
-/
import Derived.Test.YtmjeigceclmdoaaGreatDoorK03
import Derived.Test.YtmjeigceclmdoaaGreatDoorK04
namespace Go.Proofs.YtmjeigceclmdoaaGreatDoor
open Go.RowKit

/-- block b is a map of the pages from first to last whose free ones are S -/
structure MapAt (w : World) (b first last : Nat) (S : Nat → Bool) : Prop where
  made : w.cell? ⟨b, 0, none⟩ = some (.int .i64 1)
  lo : w.cell? ⟨b, 1, none⟩ = some (.int .i64 (first : Nat))
  hi : w.cell? ⟨b, 2, none⟩ = some (.int .i64 (last : Nat))
  word : ∀ i, i < 64 → ∃ x : Nat, w.cell? ⟨b, 3 + i, none⟩ = some (.int .u64 (x : Nat)) ∧ Fr.Word x S i
  many : w.cell? ⟨b, 67, none⟩ = some (.int .i64 ((Fr.lst S).length : Nat))
  soft : ∀ o, w.frozen? ⟨b, o, none⟩ = false
  top : last ≤ 4096
  rng : ∀ p, S p = true → first ≤ p ∧ p < last

theorem MapAt.lt {w : World} {b first last : Nat} {S : Nat → Bool} (h : MapAt w b first last S) : b < w.heap.size := lt_of_cell h.made
theorem MapAt.touch {F : Nat → Prop} {w w' : World} {b first last : Nat} {S : Nat → Bool} (h : MapAt w b first last S) (t : Touch F w w') (hF : ¬ F b) : MapAt w' b first last S :=
  ⟨t.cell hF h.made, t.cell hF h.lo, t.cell hF h.hi, fun i hi => let ⟨x, hx, hw⟩ := h.word i hi; ⟨x, t.cell hF hx, hw⟩, t.cell hF h.many,
    fun o => (t.frozen h.lt hF o).trans (h.soft o), h.top, h.rng⟩

theorem turn_world {w : World} {b first last p x : Nat} {S : Nat → Bool} {n : Int} (h : MapAt w b first last S) (hp : p < 4096) (hr : first ≤ p ∧ p < last)
    (hx : w.cell? ⟨b, 3 + p / 64, none⟩ = some (.int .u64 (x : Nat))) (hn : n = ((Fr.lst (Fr.flip S p)).length : Nat)) :
    MapAt ((w.setCell ⟨b, 3 + p / 64, none⟩ (.int .u64 ((x ^^^ 2 ^ (p % 64) : Nat) : Int))).setCell ⟨b, 67, none⟩ (.int .i64 n)) b first last (Fr.flip S p) := by
  have h1 : p / 64 < 64 := by omega
  obtain ⟨x', hx', hw⟩ := h.word _ h1
  have ex : x' = x := by rw [hx] at hx'; injection hx' with e; injection e with _ e; omega
  subst ex
  have c : ∀ o v, o ≠ 67 → o ≠ 3 + p / 64 → w.cell? ⟨b, o, none⟩ = some v → ((w.setCell ⟨b, 3 + p / 64, none⟩ (.int .u64 ((x' ^^^ 2 ^ (p % 64) : Nat) : Int))).setCell ⟨b, 67, none⟩ (.int .i64 n)).cell? ⟨b, o, none⟩ = some v := by
    intro o v h67 h3 hv
    rw [cell_set_ne (Or.inr (Ne.symm h67)), cell_set_ne (Or.inr (Ne.symm h3))]; exact hv
  have hm : (w.setCell ⟨b, 3 + p / 64, none⟩ (.int .u64 ((x' ^^^ 2 ^ (p % 64) : Nat) : Int))).cell? ⟨b, 67, none⟩ = some (.int .i64 ((Fr.lst S).length : Nat)) := by
    rw [cell_set_ne (Or.inr (by omega))]; exact h.many
  refine ⟨c 0 _ (by omega) (by omega) h.made, c 1 _ (by omega) (by omega) h.lo, c 2 _ (by omega) (by omega) h.hi, fun i hi => ?_, ?_, fun o => ?_, h.top, fun q hq => ?_⟩
  · by_cases e : p / 64 = i
    · subst e
      refine ⟨_, ?_, hw.flip rfl⟩
      rw [cell_set_ne (Or.inr (by omega)), cell_set hx]
    · obtain ⟨y, hy, hwy⟩ := h.word i hi
      exact ⟨y, c _ _ (by omega) (by omega) hy, hwy.flip_there e⟩
  · rw [cell_set hm, hn]
  · rw [World.frozen?_setCell, World.frozen?_setCell]; exact h.soft o
  · by_cases e : q = p
    · subst e; exact hr
    · exact h.rng q (by simpa [Fr.flip, e] using hq)

theorem shl_pow (p : Nat) : IntKind.u64.wrap (2 ^ (p % 64)) = ((2 ^ (p % 64) : Nat) : Int) := by
  have h1 := Fr.two_pow_lt (Nat.mod_lt p (show 0 < 64 by decide))
  have e : ((2 : Int) ^ (p % 64)) = ((2 ^ (p % 64) : Nat) : Int) := by norm_cast
  rw [e, IntKind.wrap_u64]
  clear e
  generalize (2 ^ (p % 64) : Nat) = a at *
  omega

set_option maxHeartbeats 1000000 in
theorem turn_any (w : World) (b first last p : Nat) (S : Nat → Bool) (h : MapAt w b first last S) (hr : first ≤ p ∧ p < last) :
    Calls Tryz.prog 142 #[.pointer (some ⟨b, 0, none⟩), .int .u32 (p : Nat)] w fun e w' => e = .returned (.tuple #[]) ∧ Touch (One b) w w' ∧ MapAt w' b first last (Fr.flip S p) := by
  have hp : p < 4096 := by have := h.top; omega
  have h1 : p / 64 < 64 := by omega
  obtain ⟨x, hx, hw⟩ := h.word _ h1
  have hb := hw.bit (p := p) rfl
  have hxf := h.soft (3 + p / 64)
  have hm := h.many
  have hmf := h.soft 67
  have hl := Fr.lst_length_le S
  have hpow := Fr.two_pow_lt (Nat.mod_lt p (show 0 < 64 by decide))
  have hxor : bits BinOp.xor .u64 (x : Int) (IntKind.u64.wrap (2 ^ (p % 64))) = ((x ^^^ 2 ^ (p % 64) : Nat) : Int) := by
    rw [shl_pow, bits_xor_u64_nat _ _ hw.1 hpow]
  have hand : bits BinOp.and .u64 ((x ^^^ 2 ^ (p % 64) : Nat) : Int) (IntKind.u64.wrap (2 ^ (p % 64))) = (((x ^^^ 2 ^ (p % 64)) &&& 2 ^ (p % 64) : Nat) : Int) := by
    rw [shl_pow, bits_and_u64_nat _ _ (hw.flip (p := p) rfl).1 hpow]
  have hbit := (hw.flip (p := p) rfl).bit (p := p) rfl
  have htest : (((((x ^^^ 2 ^ (p % 64)) &&& 2 ^ (p % 64) : Nat) : Int)) == 0) = S p := by
    rw [Fr.and_pow, hbit]
    cases hS : S p
    · have : 0 < 2 ^ (p % 64) := Nat.pow_pos (by decide)
      rw [if_pos (by simp [Fr.flip, hS])]
      generalize (2 ^ (p % 64) : Nat) = a at *
      simp; omega
    · simp [Fr.flip, hS]
  have fin : ∀ n : Int, n = ((Fr.lst (Fr.flip S p)).length : Nat) →
      Touch (One b) w ((w.setCell ⟨b, 3 + p / 64, none⟩ (.int .u64 ((x ^^^ 2 ^ (p % 64) : Nat) : Int))).setCell ⟨b, 67, none⟩ (.int .i64 n)) ∧
      MapAt ((w.setCell ⟨b, 3 + p / 64, none⟩ (.int .u64 ((x ^^^ 2 ^ (p % 64) : Nat) : Int))).setCell ⟨b, 67, none⟩ (.int .i64 n)) b first last (Fr.flip S p) := fun n hn =>
    ⟨((Touch.refl (One b) w).setCell (p := ⟨b, 3 + p / 64, none⟩) (fun _ => rfl) _).setCell (p := ⟨b, 67, none⟩) (fun _ => rfl) _, turn_world h hp hr hx hn⟩
  have Fin := Lib.hid fin
  clear fin hbit hb hpow
  generalize hxx : (x ^^^ 2 ^ (p % 64) : Nat) = xx at *
  generalize hyy : (xx &&& 2 ^ (p % 64) : Nat) = yy at *
  have H := Lib.hid h
  have Hw := Lib.hid hw
  have Hr := Lib.hid hr
  have Hxx := Lib.hid hxx
  have Hyy := Lib.hid hyy
  clear h hw hr h1 hxx hyy
  cases hS : S p
  · have HS := Lib.hid hS
    rw [hS] at htest
    have Hn := Lib.hid (Fr.lst_flip_off hp hS)
    clear hS
    generalize (Fr.lst S).length = n0 at *
    go_enter Tryz.func142, Tryz.ntmps142
    go_wp2
    go_end0
    exact ⟨rfl, Fin.out _ (by rw [Hn.out]; omega)⟩
  · have HS := Lib.hid hS
    rw [hS] at htest
    have hn1 := Fr.lst_flip_on hp hS
    have Hn := Lib.hid hn1
    have hpos : 1 ≤ (Fr.lst S).length := by omega
    clear hS hn1
    generalize (Fr.lst S).length = n0 at *
    go_enter Tryz.func142, Tryz.ntmps142
    go_wp2
    go_end0
    exact ⟨rfl, Fin.out _ (by rw [Hn.out]; omega)⟩
end Go.Proofs.YtmjeigceclmdoaaGreatDoor
