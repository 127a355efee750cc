/-
  Package disks by its own text: New, Sync.
-/
import Derived.Test.YtkiehoboeiengaaK07
import Derived.Laws.MakeOwn
namespace Go.Proofs.Ytkiehoboeiengaa
open Go Go.RowKit

theorem made_flat {α : Type} {f : α → List Value} {k : Nat} (hf : ∀ x, (f x).length = k) (hk : 0 < k) (x : α) (n : Nat) : madeCells (f x).toArray (n * k) = ((List.replicate n x).flatMap f).toArray := by
  apply Array.ext'
  refine List.ext_getElem? (fun i => ?_)
  have hl : ((List.replicate n x).flatMap f).length = n * k := by rw [flat_length hf]; simp
  by_cases hi : i < n * k
  · have hq : i / k < n := (Nat.div_lt_iff_lt_mul hk).2 hi
    have he : i = (i / k) * k + i % k := (Nat.div_add_mod' i k).symm
    have hm := Nat.mod_lt i hk
    have h1 : ((List.replicate n x).flatMap f)[i]? = (f x)[i % k]? := by
      conv => lhs; rw [he]
      exact flat_get hf _ _ _ x (by rw [List.getElem?_replicate]; simp [hq]) hm
    rw [show ((List.replicate n x).flatMap f).toArray.toList = (List.replicate n x).flatMap f from rfl, h1]
    unfold madeCells
    simp [hi, hf, List.getElem?_eq_getElem (show i % k < (f x).length by rw [hf]; exact hm)]
  · rw [List.getElem?_eq_none (by rw [Array.length_toList, size_madeCells]; omega), List.getElem?_eq_none (by rw [hl]; omega)]

set_option maxHeartbeats 2000000 in
theorem new_is (w : World) (n : Nat) (h1 : 1 ≤ n) (hn : n ≤ 16384) :
    Calls Try.prog 8 #[.int .i64 (n : Nat)] w fun e w' => ∃ d, e = .returned (.tuple #[.pointer (some ⟨d, 0, none⟩), .int .i64 0]) ∧ w.heap.size ≤ d ∧ DiskAt w' d (Dk.new n) (fun k => w.heap.size ≤ k) ∧ Touch No w w' := by
  obtain ⟨I, z, hI⟩ := sec_is
  have hmk : ∀ wx : World, (Instr.makeSlice 76 (.int .i64 (n : Int)) (.int .i64 (n : Int))).run Try.prog wx = .ok (.slice (some ⟨wx.heap.size, 0, none⟩) n n) (wx.alloc (.cells ((List.replicate n Dk.noughts).flatMap secCells).toArray 87)) := fun wx => by
    have := run_make (P := Try.prog) wx 76 87 I z Try.underlying76 hI.info hI.zero .i64 .i64 (n : Int) (n : Int) (by omega) (by omega) (by rw [hI.bytes]; omega) (by omega)
    rw [this, hI.cells, hI.size, Int.toNat_natCast, made_flat secCells_length (by decide)]
  clear hI
  have g1 : ¬ (n : Int) < 1 := by omega
  have g2 : ¬ (16384 : Int) < (n : Int) := by omega
  go_enter Try.func8, Try.ntmps8
  go_wp2_with fail
  have hl : (List.replicate n Dk.noughts).length = n := List.length_replicate
  have hR : Row (w.alloc (.cells ((List.replicate n Dk.noughts).flatMap secCells).toArray 87)) w.heap.size 87 ((List.replicate n Dk.noughts).flatMap secCells ++ []) := by
    rw [List.append_nil]; exact Row.new w _ _
  have hc := of_is _ _ n (List.replicate n Dk.noughts) [] hR (by rw [hl]; exact h1) (by rw [hl]; exact hn) (by rw [hl]; exact Nat.le_refl _) (by unfold maxLen; omega) (fun s hs => by rw [(List.mem_replicate.1 hs).2]; exact Dk.noughts_ok)
  rw [hl] at hc
  refine hc.mono ?_
  rintro e w1 ⟨d, rfl, k1, k2, k3⟩
  have K1 := Lib.hid k1
  have K2 := Lib.hid k2
  have K3 := Lib.hid k3
  clear k1 k2 k3
  go_wp2
  go_ret2
  have hs := K1.out
  rw [size_alloc] at hs
  refine ⟨d, rfl, by omega, ?_, ((Touch.refl No w).alloc _).trans K3.out⟩
  obtain ⟨gs, gn, cs, cn, rs, rn, vw, h, o1, o2, o3, o4⟩ := K2.out
  have P : ∀ k, (k = w.heap.size ∨ (w.alloc (.cells ((List.replicate n Dk.noughts).flatMap secCells).toArray 87)).heap.size ≤ k) → w.heap.size ≤ k := fun k hk => by
    rw [size_alloc] at hk; omega
  exact ⟨gs, gn, cs, cn, rs, rn, vw, h, P _ o1, P _ o2, P _ o3, fun k hk => P _ (o4 k hk)⟩
set_option maxHeartbeats 2000000 in
/-- New of no number of sectors that a disk may have -/
theorem new_bad (w : World) (n : Int) (h : n < 1 ∨ 16384 < n) : Calls Try.prog 8 #[.int .i64 n] w fun e w' => e = .returned (.tuple #[.pointer none, .int .i64 1]) ∧ w = w' := by
  by_cases g1 : n < 1
  · go_enter Try.func8, Try.ntmps8
    go_wp2_with fail
    go_ret2
    exact ⟨rfl, rfl⟩
  · have g2 : 16384 < n := by omega
    go_enter Try.func8, Try.ntmps8
    go_wp2_with fail
    go_ret2
    exact ⟨rfl, rfl⟩

set_option maxHeartbeats 2000000 in
theorem sync_in (w : World) (d : Nat) (D : Dk.Disk) (O : Nat → Prop) (h : DiskAt w d D O) :
    Calls Try.prog 42 #[.pointer (some ⟨d, 0, none⟩)] w fun e w' => e = .returned (.int .i64 0) ∧ Touch O w w' ∧ DiskAt w' d (Dk.sync D) (fun k => O k ∨ w.heap.size ≤ k) := by
  have H := Lib.hid h
  have ok := h.ok
  have Hd := Lib.hid h.lt
  obtain ⟨gs, gn, cs, cn, rs, rn, vw, h, o1, o2, o3, o4⟩ := h
  have hc := h.c1
  have Hi := Lib.hid h
  have Hok := Lib.hid ok
  have e0 : askSays D.seen.length 0 = 0 := by
    have := ok.pos
    unfold askSays; rw [if_pos (by omega)]
  clear h ok
  have Hc := Lib.hid hc
  clear hc
  go_enter Try.func42, Try.ntmps42
  go_wp2_with fail
  refine (ask_any w d D O _ H.out).mono ?_
  rintro e w' ⟨rfl, rfl⟩
  rw [e0]
  have hc := Hc.out
  go_wp2_with fail
  refine (clone_secs w gn cn D.seen rn Hi.out.seen Hok.out.top).mono ?_
  rintro e w1 ⟨g', c', r', rfl, k1, k2, k3, k4, k5⟩
  clear hc
  have f0 : w1.frozen? ⟨d, 0, none⟩ = false := (k5.frozen Hd.out id 0).trans (Hi.out.soft 0)
  have f2 : w1.frozen? ⟨d, 2, none⟩ = false := (k5.frozen Hd.out id 2).trans (Hi.out.soft 2)
  have c0 := k5.cell (id : No d → False) Hi.out.c0
  have c2 := k5.cell (id : No d → False) Hi.out.c2
  have K1 := Lib.hid k1
  have K2 := Lib.hid k2
  have K3 := Lib.hid k3
  have K4 := Lib.hid k4
  have K5 := Lib.hid k5
  have C0 := Lib.hid c0
  have C2 := Lib.hid c2
  clear k1 k2 k3 k4 k5
  go_wp2
  go_ret
  have T2 : Touch (One d) w1 ((w1.setCell ⟨d, 0, none⟩ (.slice (some ⟨g', 0, none⟩) D.seen.length c')).setCell ⟨d, 2, none⟩ (.slice none 0 0)) := ((Touch.refl (One d) w1).setCell (p := ⟨d, 0, none⟩) (fun _ => rfl) _).setCell (p := ⟨d, 2, none⟩) (fun _ => rfl) _
  have d1 : d < w1.heap.size := Nat.lt_of_lt_of_le Hd.out K5.out.size
  have eg : g' ≠ d := fun e => by have := K1.out; have := Hd.out; omega
  have sn := Hi.out.seen.touch K5.out id
  refine ⟨rfl, (Touch.no (F := O) K5.out).then T2 (fun i _ e => by rw [show i = d from e]; exact o1), g', gn, c', cn, r', rn, .slice none 0 0, ⟨Dk.sync_ok Hok.out, ?_, ?_, ?_, fun o => ?_, K2.out.touch T2 eg, sn.touch T2 (fun e => Hi.out.ne.2.1 e.symm), K3.out, Hi.out.lcn, K4.out, Hi.out.mcn, ⟨rfl, Or.inl ⟨rfl, rfl⟩⟩, ⟨Ne.symm eg, Hi.out.ne.2.1, fun e => ?_⟩, fun k hk => by cases hk⟩, Or.inl o1, Or.inr K1.out, Or.inl o3, fun k hk => by cases hk⟩
  · rw [cell_set_ne (Or.inr (by decide))]; exact cell_set C0.out
  · rw [cell_set_ne (Or.inr (by decide)), cell_set_ne (Or.inr (by decide))]; exact K5.out.cell (id : No d → False) Hi.out.c1
  · exact cell_set ((cell_set_ne (Or.inr (by decide))).trans C2.out)
  · rw [World.frozen?_setCell, World.frozen?_setCell]; exact (K5.out.frozen Hd.out id o).trans (Hi.out.soft o)
  · have := K1.out; have := Hi.out.seen.lt; omega
end Go.Proofs.Ytkiehoboeiengaa
