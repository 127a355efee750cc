/-
  Package disks by its own text: Len, Waits; slices.Clone of sectors and of bytes; of.
-/
import Derived.Test.YtkiehoboeiengaaK06
namespace Go.Proofs.Ytkiehoboeiengaa
open Go Go.RowKit

set_option maxHeartbeats 400000 in
theorem len_in (w : World) (d : Nat) (D : Dk.Disk) (O : Nat → Prop) (h : DiskAt w d D O) :
    Calls Try.prog 59 #[.pointer (some ⟨d, 0, none⟩)] w fun e w' => e = .returned (.int .i64 (D.seen.length : Nat)) ∧ w = w' := by
  have H := Lib.hid h
  have ok := h.ok
  obtain ⟨gs, gn, cs, cn, rs, rn, vw, h, _⟩ := h
  have hc := h.c1
  have e0 : askSays D.seen.length 0 = 0 := by
    have := ok.pos
    unfold askSays; rw [if_pos (by omega)]
  clear h ok
  go_enter Try.func59, Try.ntmps59
  go_wp2_with (go_at_call 37; refine (ask_any _ _ _ _ _ H.out).mono ?_; rintro e w' ⟨rfl, rfl⟩; rw [e0])
  go_ret
  exact ⟨rfl, rfl⟩

theorem rowSlice {w : World} {base e size n : Nat} {v : Value} {xs : List Value} (h : w.ownsRow base e size v n xs) : ∃ a c, v = .slice a n c ∧ n ≤ c ∧ c ≤ maxLen := by
  obtain ⟨_, h⟩ := h
  rcases h with ⟨rfl, rfl⟩ | ⟨g, cap, cur, rfl, _, _, h1, h2, _⟩
  · exact ⟨_, _, rfl, Nat.le_refl _, by unfold maxLen; omega⟩
  · exact ⟨_, _, rfl, h1, h2⟩

set_option maxHeartbeats 400000 in
theorem waits_in (w : World) (d : Nat) (D : Dk.Disk) (O : Nat → Prop) (h : DiskAt w d D O) :
    Calls Try.prog 22 #[.pointer (some ⟨d, 0, none⟩)] w fun e w' => e = .returned (.int .i64 (D.waits.length : Nat)) ∧ w = w' := by
  have H := Lib.hid h
  have ok := h.ok
  obtain ⟨gs, gn, cs, cn, rs, rn, vw, h, _⟩ := h
  obtain ⟨a, c, rfl, h1, h2⟩ := rowSlice h.waits
  have hc := h.c2
  have e0 : askSays D.seen.length 0 = 0 := by
    have := ok.pos
    unfold askSays; rw [if_pos (by omega)]
  clear h ok
  go_enter Try.func22, Try.ntmps22
  go_wp2_with (go_at_call 37; refine (ask_any _ _ _ _ _ H.out).mono ?_; rintro e w' ⟨rfl, rfl⟩; rw [e0])
  go_ret
  exact ⟨rfl, rfl⟩

/-! ### the types of the elements -/
/-- what a type's zero and room are -/
structure TypeIs (t : TypeId) (i : TypeInfo) (z : Value) (size bytes : Nat) (cells : List Value) : Prop where
  info : Try.prog.info? t = some i
  zero : i.zero = some z
  size : i.size = size
  bytes : i.bytes = bytes
  cells : z.cells = cells.toArray
theorem type_is {t : TypeId} {size bytes : Nat} {cells : List Value} (h : (Try.prog.info? t).map (fun i => (i.zero.map (·.cells), i.size, i.bytes)) = some (some cells.toArray, size, bytes)) : ∃ i z, TypeIs t i z size bytes cells := by
  cases hi : Try.prog.info? t with
  | none => simp [hi] at h
  | some i =>
    rw [hi] at h
    simp only [Option.map_some, Option.some.injEq, Prod.mk.injEq] at h
    obtain ⟨h1, h2, h3⟩ := h
    cases hz : i.zero with
    | none => simp [hz] at h1
    | some z => exact ⟨i, z, hi, hz, h2, h3, by simpa [hz] using h1⟩
theorem sec_is : ∃ i z, TypeIs 87 i z 65 72 (secCells Dk.noughts) := type_is (by kernel_rfl)
theorem wr_is : ∃ i z, TypeIs 97 i z 66 80 (wrCells ⟨0, Dk.noughts.b, 0⟩) := type_is (by kernel_rfl)

theorem secCells_one (s : Dk.Sec) : ∀ u ∈ secCells s, u.oneCell' = true := by
  intro u hu
  rcases List.mem_append.1 hu with h | h
  · obtain ⟨x, _, rfl⟩ := List.mem_map.1 h; rfl
  · rw [List.mem_singleton.1 h]; rfl
theorem wrCells_one (x : Dk.Wr) : ∀ u ∈ wrCells x, u.oneCell' = true := by
  intro u hu
  rcases List.mem_cons.1 hu with rfl | h
  · rfl
  rcases List.mem_append.1 h with h | h
  · obtain ⟨x, _, rfl⟩ := List.mem_map.1 h; rfl
  · rw [List.mem_singleton.1 h]; rfl
theorem secs_one (l : List Dk.Sec) : ∀ u ∈ l.flatMap secCells, u.oneCell' = true := by
  intro u hu
  obtain ⟨s, _, h⟩ := List.mem_flatMap.1 hu
  exact secCells_one s u h

theorem ownRow {w : World} {base e size n : Nat} {v : Value} {xs : List Value} (h : w.ownsRow base e size v n xs) (hv : v ≠ .slice none 0 0) :
    ∃ g c r, v = .slice (some ⟨g, 0, none⟩) n c ∧ base ≤ g ∧ Row w g e (xs ++ r) ∧ n ≤ c ∧ c ≤ maxLen := by
  obtain ⟨_, h⟩ := h
  rcases h with ⟨rfl, _⟩ | ⟨g, cap, cur, rfl, h1, h2, h3, h4, h5, h6⟩
  · exact absurd rfl hv
  · refine ⟨g, cap, cur.toList.drop (n * size), rfl, h1, ?_, h3, h4⟩
    rw [Row, h2, ← h6, List.take_append_drop, Array.toArray_toList]

set_option maxHeartbeats 2000000 in
theorem clone_secs (w : World) (g c : Nat) (l : List Dk.Sec) (r : List Value) (hr : Row w g 87 (l.flatMap secCells ++ r)) (hn : l.length ≤ 16384) :
    Calls Try.prog 40 #[.slice (some ⟨g, 0, none⟩) l.length c] w fun e w' => ∃ g' c' r', e = .returned (.slice (some ⟨g', 0, none⟩) l.length c') ∧ w.heap.size ≤ g' ∧ Row w' g' 87 (l.flatMap secCells ++ r') ∧ l.length ≤ c' ∧ c' ≤ maxLen ∧ Touch No w w' := by
  have hq := fun (w : World) (a : Option Addr) (n c n' c' : Nat) => Lib.run_eql_slice_nil (P := Try.prog) w 76 87 a n c n' c' Try.underlying76
  have hlen : (l.flatMap secCells).length = l.length * 65 := flat_length secCells_length l
  obtain ⟨I, z, hI⟩ := sec_is
  have HI := Lib.hid hI
  clear hI
  have H := Lib.hid hr
  have Hl := Lib.hid hlen
  have Hn := Lib.hid hn
  clear hr hlen hn
  generalize l.length = m at *
  go_enter Try.func40, Try.ntmps40
  go_wp2_with (at_builtin; refine wpList_append_own _ rfl _ _ 76 rfl w.heap.size 87 I z 65 72 Try.underlying76 HI.out.info HI.out.zero HI.out.size HI.out.bytes (by rw [HI.out.cells]; exact secCells_length _) (by decide) _ _ _ rfl (World.ownsRow_made w #[] 0 (Nat.le_refl _) (Nat.zero_le _) (by simp)) ⟨g, 0, none⟩ m c (l.flatMap secCells) rfl ?qc1 ?qc2 ?qc3 ?qc4 ?qc5 ?qc6 ?_)
  case qc1 => exact Hl.out
  case qc2 =>
    intro j u hj
    rw [Addr.add_lit]
    refine Lib.cell?_alloc_some _ ?_
    rw [Nat.zero_add, H.out.cell]
    rw [List.getElem?_append_left (by
      by_cases hh : j < (l.flatMap secCells).length
      · exact hh
      · rw [List.getElem?_eq_none (by omega)] at hj; cases hj)]
    exact hj
  case qc3 => exact secs_one l
  case qc4 => have := Hn.out; unfold maxLen; omega
  case qc5 => have := Hn.out; omega
  case qc6 => simp
  intro v' w1 hown hgrow hnil
  have Ho := Lib.hid hown
  have Hg := Lib.hid hgrow
  have Hx := Lib.hid hnil
  clear hown hgrow hnil
  go_wp2
  go_ret
  obtain ⟨g', c', r', rfl, h1, h2, h3, h4⟩ := ownRow Ho.out Hx.out
  refine ⟨g', c', r', by simp, h1, by simpa using h2, by simpa using h3, h4, ?_⟩
  exact ((Touch.refl No w).alloc _).grown Hg.out (by intro k hk hlt; simp [Value.ownBlock] at hk; omega)

/-- of: a disk of sectors that are sure -/
theorem of_is (w : World) (g c : Nat) (l : List Dk.Sec) (r : List Value) (hr : Row w g 87 (l.flatMap secCells ++ r)) (h1 : 1 ≤ l.length) (hn : l.length ≤ 16384) (hc : l.length ≤ c) (hm : c ≤ maxLen) (hok : ∀ s ∈ l, s.Ok) :
    Calls Try.prog 35 #[.slice (some ⟨g, 0, none⟩) l.length c] w fun e w' => ∃ d, e = .returned (.pointer (some ⟨d, 0, none⟩)) ∧ w.heap.size ≤ d ∧ DiskAt w' d ⟨l, l, []⟩ (fun k => k = g ∨ w.heap.size ≤ k) ∧ Touch No w w' := by
  have H := Lib.hid hr
  have hg := hr.lt
  have Hg := Lib.hid hg
  have Hn := Lib.hid hn
  have Hc := Lib.hid hc
  have Hm := Lib.hid hm
  have H1 := Lib.hid h1
  clear hr hn hc hm hg h1
  have E : Hid (l.length = l.length) := rfl
  obtain ⟨m, Em⟩ : ∃ m, l.length = m := ⟨_, rfl⟩
  rw [Em]
  have HEm := Lib.hid Em
  clear Em E
  go_enter Try.func35, Try.ntmps35
  go_wp2_with fail
  rw [← HEm.out]
  refine (clone_secs w g c l r H.out Hn.out).mono ?_
  rintro e w1 ⟨g', c', r', rfl, k1, k2, k3, k4, k5⟩
  rw [HEm.out]
  have K1 := Lib.hid k1
  have K2 := Lib.hid k2
  have K3 := Lib.hid k3
  have K4 := Lib.hid k4
  have K5 := Lib.hid k5
  clear k1 k2 k3 k4 k5
  go_wp2
  go_ret
  have hg' := K2.out.lt
  have hsz := K5.out.size
  have em := HEm.out
  have T1 : Touch No w1 (w1.alloc (Obj.cells #[.slice (some ⟨g, 0, none⟩) m c, .slice (some ⟨g', 0, none⟩) m c', .slice none 0 0] 90)) := (Touch.refl No w1).alloc _
  refine ⟨w1.heap.size, rfl, hsz, ⟨g, g', c, c', r, r', .slice none 0 0, ?_, Or.inr hsz, Or.inl rfl, Or.inr K1.out, fun k hk => by cases hk⟩, (K5.out.alloc _)⟩
  refine ⟨⟨rfl, H1.out, Hn.out, hok, hok, fun x hx => by cases hx⟩, ?_, ?_, ?_, fun o => ?_, ?_, ?_, Hc.out, K3.out, Hm.out, K4.out, ⟨rfl, Or.inl ⟨rfl, rfl⟩⟩, ?_, fun k hk => by cases hk⟩
  · rw [cell_new]; simp only [em]; rfl
  · rw [cell_new]; simp only [em]; rfl
  · rw [cell_new]; rfl
  · rw [frozen_new]
  · exact (H.out.touch K5.out id).touch T1 id
  · exact K2.out.touch T1 id
  · have := Hg.out
    have := K1.out
    exact ⟨by omega, by omega, by omega⟩
end Go.Proofs.Ytkiehoboeiengaa
