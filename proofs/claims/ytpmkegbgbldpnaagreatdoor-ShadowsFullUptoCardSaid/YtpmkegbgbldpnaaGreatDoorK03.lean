/-
  Package disks by its own text: Len, Waits; slices.Clone of sectors and of bytes; of.
  Package disks by its own text: New, Sync.
-/
import Derived.Test.YtpmkegbgbldpnaaGreatDoorK02
import Derived.Laws.MakeOwn
namespace Go.Proofs.YtpmkegbgbldpnaaGreatDoor
open Go Go.RowKit

set_option maxHeartbeats 400000 in
theorem len_in (w : World) (d : Nat) (D : Dk.Disk) (O : Nat → Prop) (h : DiskAt w d D O) :
    Calls Tryz.prog 55 #[.pointer (some ⟨d, 0, none⟩)] w fun e w' => e = .returned (.int .i64 (D.seen.length : Nat)) ∧ w = w' := by
  have H := Lib.hid h
  have ok := h.ok
  obtain ⟨gs, gn, cs, cn, rs, rn, vw, h, _⟩ := h
  have hc := h.c1
  have e0 : askSays D.seen.length 0 = 0 := by
    have := ok.pos
    unfold askSays; rw [if_pos (by omega)]
  clear h ok
  go_enter Tryz.func55, Tryz.ntmps55
  go_wp2_with (go_at_call 54; refine (ask_any _ _ _ _ _ H.out).mono ?_; rintro e w' ⟨rfl, rfl⟩; rw [e0])
  go_ret
  exact ⟨rfl, rfl⟩

theorem rowSlice {w : World} {base e size n : Nat} {v : Value} {xs : List Value} (h : w.ownsRow base e size v n xs) : ∃ a c, v = .slice a n c ∧ n ≤ c ∧ c ≤ maxLen := by
  obtain ⟨_, h⟩ := h
  rcases h with ⟨rfl, rfl⟩ | ⟨g, cap, cur, rfl, _, _, h1, h2, _⟩
  · exact ⟨_, _, rfl, Nat.le_refl _, by unfold maxLen; omega⟩
  · exact ⟨_, _, rfl, h1, h2⟩

/-! ### the types of the elements -/
/-- what a type's zero and room are -/
structure TypeIs (t : TypeId) (i : TypeInfo) (z : Value) (size bytes : Nat) (cells : List Value) : Prop where
  info : Tryz.prog.info? t = some i
  zero : i.zero = some z
  size : i.size = size
  bytes : i.bytes = bytes
  cells : z.cells = cells.toArray
theorem type_is {t : TypeId} {size bytes : Nat} {cells : List Value} (h : (Tryz.prog.info? t).map (fun i => (i.zero.map (·.cells), i.size, i.bytes)) = some (some cells.toArray, size, bytes)) : ∃ i z, TypeIs t i z size bytes cells := by
  cases hi : Tryz.prog.info? t with
  | none => simp [hi] at h
  | some i =>
    rw [hi] at h
    simp only [Option.map_some, Option.some.injEq, Prod.mk.injEq] at h
    obtain ⟨h1, h2, h3⟩ := h
    cases hz : i.zero with
    | none => simp [hz] at h1
    | some z => exact ⟨i, z, hi, hz, h2, h3, by simpa [hz] using h1⟩
theorem sec_is : ∃ i z, TypeIs 117 i z 65 72 (secCells Dk.noughts) := type_is (by kernel_rfl)
theorem wr_is : ∃ i z, TypeIs 115 i z 66 80 (wrCells ⟨0, Dk.noughts.b, 0⟩) := type_is (by kernel_rfl)

theorem secCells_one (s : Dk.Sec) : ∀ u ∈ secCells s, u.oneCell' = true := by
  intro u hu
  rcases List.mem_append.1 hu with h | h
  · obtain ⟨x, _, rfl⟩ := List.mem_map.1 h; rfl
  · rw [List.mem_singleton.1 h]; rfl
theorem wrCells_one (x : Dk.Wr) : ∀ u ∈ wrCells x, u.oneCell' = true := by
  intro u hu
  rcases List.mem_cons.1 hu with rfl | h
  · rfl
  rcases List.mem_append.1 h with h | h
  · obtain ⟨x, _, rfl⟩ := List.mem_map.1 h; rfl
  · rw [List.mem_singleton.1 h]; rfl
theorem secs_one (l : List Dk.Sec) : ∀ u ∈ l.flatMap secCells, u.oneCell' = true := by
  intro u hu
  obtain ⟨s, _, h⟩ := List.mem_flatMap.1 hu
  exact secCells_one s u h

theorem ownRow {w : World} {base e size n : Nat} {v : Value} {xs : List Value} (h : w.ownsRow base e size v n xs) (hv : v ≠ .slice none 0 0) :
    ∃ g c r, v = .slice (some ⟨g, 0, none⟩) n c ∧ base ≤ g ∧ Row w g e (xs ++ r) ∧ n ≤ c ∧ c ≤ maxLen := by
  obtain ⟨_, h⟩ := h
  rcases h with ⟨rfl, _⟩ | ⟨g, cap, cur, rfl, h1, h2, h3, h4, h5, h6⟩
  · exact absurd rfl hv
  · refine ⟨g, cap, cur.toList.drop (n * size), rfl, h1, ?_, h3, h4⟩
    rw [Row, h2, ← h6, List.take_append_drop, Array.toArray_toList]

set_option maxHeartbeats 2000000 in
theorem clone_secs (w : World) (g c : Nat) (l : List Dk.Sec) (r : List Value) (hr : Row w g 117 (l.flatMap secCells ++ r)) (hn : l.length ≤ 16384) :
    Calls Tryz.prog 76 #[.slice (some ⟨g, 0, none⟩) l.length c] w fun e w' => ∃ g' c' r', e = .returned (.slice (some ⟨g', 0, none⟩) l.length c') ∧ w.heap.size ≤ g' ∧ Row w' g' 117 (l.flatMap secCells ++ r') ∧ l.length ≤ c' ∧ c' ≤ maxLen ∧ Touch No w w' := by
  have hq := fun (w : World) (a : Option Addr) (n c n' c' : Nat) => Lib.run_eql_slice_nil (P := Tryz.prog) w 108 117 a n c n' c' Tryz.underlying108
  have hlen : (l.flatMap secCells).length = l.length * 65 := flat_length secCells_length l
  obtain ⟨I, z, hI⟩ := sec_is
  have HI := Lib.hid hI
  clear hI
  have H := Lib.hid hr
  have Hl := Lib.hid hlen
  have Hn := Lib.hid hn
  clear hr hlen hn
  generalize l.length = m at *
  go_enter Tryz.func76, Tryz.ntmps76
  go_wp2_with (at_builtin; refine wpList_append_own _ rfl _ _ 108 rfl w.heap.size 117 I z 65 72 Tryz.underlying108 HI.out.info HI.out.zero HI.out.size HI.out.bytes (by rw [HI.out.cells]; exact secCells_length _) (by decide) _ _ _ rfl (World.ownsRow_made w #[] 0 (Nat.le_refl _) (Nat.zero_le _) (by simp)) ⟨g, 0, none⟩ m c (l.flatMap secCells) rfl ?qc1 ?qc2 ?qc3 ?qc4 ?qc5 ?qc6 ?_)
  case qc1 => exact Hl.out
  case qc2 =>
    intro j u hj
    rw [Addr.add_lit]
    refine Lib.cell?_alloc_some _ ?_
    rw [Nat.zero_add, H.out.cell]
    rw [List.getElem?_append_left (by
      by_cases hh : j < (l.flatMap secCells).length
      · exact hh
      · rw [List.getElem?_eq_none (by omega)] at hj; cases hj)]
    exact hj
  case qc3 => exact secs_one l
  case qc4 => have := Hn.out; unfold maxLen; omega
  case qc5 => have := Hn.out; omega
  case qc6 => simp
  intro v' w1 hown hgrow hnil
  have Ho := Lib.hid hown
  have Hg := Lib.hid hgrow
  have Hx := Lib.hid hnil
  clear hown hgrow hnil
  go_wp2
  go_ret
  obtain ⟨g', c', r', rfl, h1, h2, h3, h4⟩ := ownRow Ho.out Hx.out
  refine ⟨g', c', r', by simp, h1, by simpa using h2, by simpa using h3, h4, ?_⟩
  exact ((Touch.refl No w).alloc _).grown Hg.out (by intro k hk hlt; simp [Value.ownBlock] at hk; omega)

/-- of: a disk of sectors that are sure -/
theorem of_is (w : World) (g c : Nat) (l : List Dk.Sec) (r : List Value) (hr : Row w g 117 (l.flatMap secCells ++ r)) (h1 : 1 ≤ l.length) (hn : l.length ≤ 16384) (hc : l.length ≤ c) (hm : c ≤ maxLen) (hok : ∀ s ∈ l, s.Ok) :
    Calls Tryz.prog 53 #[.slice (some ⟨g, 0, none⟩) l.length c] w fun e w' => ∃ d, e = .returned (.pointer (some ⟨d, 0, none⟩)) ∧ w.heap.size ≤ d ∧ DiskAt w' d ⟨l, l, []⟩ (fun k => k = g ∨ w.heap.size ≤ k) ∧ Touch No w w' := by
  have H := Lib.hid hr
  have hg := hr.lt
  have Hg := Lib.hid hg
  have Hn := Lib.hid hn
  have Hc := Lib.hid hc
  have Hm := Lib.hid hm
  have H1 := Lib.hid h1
  clear hr hn hc hm hg h1
  have E : Hid (l.length = l.length) := rfl
  obtain ⟨m, Em⟩ : ∃ m, l.length = m := ⟨_, rfl⟩
  rw [Em]
  have HEm := Lib.hid Em
  clear Em E
  go_enter Tryz.func53, Tryz.ntmps53
  go_wp2_with fail
  rw [← HEm.out]
  refine (clone_secs w g c l r H.out Hn.out).mono ?_
  rintro e w1 ⟨g', c', r', rfl, k1, k2, k3, k4, k5⟩
  rw [HEm.out]
  have K1 := Lib.hid k1
  have K2 := Lib.hid k2
  have K3 := Lib.hid k3
  have K4 := Lib.hid k4
  have K5 := Lib.hid k5
  clear k1 k2 k3 k4 k5
  go_wp2
  go_ret
  have hg' := K2.out.lt
  have hsz := K5.out.size
  have em := HEm.out
  have T1 : Touch No w1 (w1.alloc (Obj.cells #[.slice (some ⟨g, 0, none⟩) m c, .slice (some ⟨g', 0, none⟩) m c', .slice none 0 0] 120)) := (Touch.refl No w1).alloc _
  refine ⟨w1.heap.size, rfl, hsz, ⟨g, g', c, c', r, r', .slice none 0 0, ?_, Or.inr hsz, Or.inl rfl, Or.inr K1.out, fun k hk => by cases hk⟩, (K5.out.alloc _)⟩
  refine ⟨⟨rfl, H1.out, Hn.out, hok, hok, fun x hx => by cases hx⟩, ?_, ?_, ?_, fun o => ?_, ?_, ?_, Hc.out, K3.out, Hm.out, K4.out, ⟨rfl, Or.inl ⟨rfl, rfl⟩⟩, ?_, fun k hk => by cases hk⟩
  · rw [cell_new]; simp only [em]; rfl
  · rw [cell_new]; simp only [em]; rfl
  · rw [cell_new]; rfl
  · rw [frozen_new]
  · exact (H.out.touch K5.out id).touch T1 id
  · exact K2.out.touch T1 id
  · have := Hg.out
    have := K1.out
    exact ⟨by omega, by omega, by omega⟩
end Go.Proofs.YtpmkegbgbldpnaaGreatDoor
namespace Go.Proofs.YtpmkegbgbldpnaaGreatDoor
open Go Go.RowKit

theorem made_flat {α : Type} {f : α → List Value} {k : Nat} (hf : ∀ x, (f x).length = k) (hk : 0 < k) (x : α) (n : Nat) : madeCells (f x).toArray (n * k) = ((List.replicate n x).flatMap f).toArray := by
  apply Array.ext'
  refine List.ext_getElem? (fun i => ?_)
  have hl : ((List.replicate n x).flatMap f).length = n * k := by rw [flat_length hf]; simp
  by_cases hi : i < n * k
  · have hq : i / k < n := (Nat.div_lt_iff_lt_mul hk).2 hi
    have he : i = (i / k) * k + i % k := (Nat.div_add_mod' i k).symm
    have hm := Nat.mod_lt i hk
    have h1 : ((List.replicate n x).flatMap f)[i]? = (f x)[i % k]? := by
      conv => lhs; rw [he]
      exact flat_get hf _ _ _ x (by rw [List.getElem?_replicate]; simp [hq]) hm
    rw [show ((List.replicate n x).flatMap f).toArray.toList = (List.replicate n x).flatMap f from rfl, h1]
    unfold madeCells
    simp [hi, hf, List.getElem?_eq_getElem (show i % k < (f x).length by rw [hf]; exact hm)]
  · rw [List.getElem?_eq_none (by rw [Array.length_toList, size_madeCells]; omega), List.getElem?_eq_none (by rw [hl]; omega)]

set_option maxHeartbeats 2000000 in
theorem new_is (w : World) (n : Nat) (h1 : 1 ≤ n) (hn : n ≤ 16384) :
    Calls Tryz.prog 10 #[.int .i64 (n : Nat)] w fun e w' => ∃ d, e = .returned (.tuple #[.pointer (some ⟨d, 0, none⟩), .int .i64 0]) ∧ w.heap.size ≤ d ∧ DiskAt w' d (Dk.new n) (fun k => w.heap.size ≤ k) ∧ Touch No w w' := by
  obtain ⟨I, z, hI⟩ := sec_is
  have hmk : ∀ wx : World, (Instr.makeSlice 108 (.int .i64 (n : Int)) (.int .i64 (n : Int))).run Tryz.prog wx = .ok (.slice (some ⟨wx.heap.size, 0, none⟩) n n) (wx.alloc (.cells ((List.replicate n Dk.noughts).flatMap secCells).toArray 117)) := fun wx => by
    have := run_make (P := Tryz.prog) wx 108 117 I z Tryz.underlying108 hI.info hI.zero .i64 .i64 (n : Int) (n : Int) (by omega) (by omega) (by rw [hI.bytes]; omega) (by omega)
    rw [this, hI.cells, hI.size, Int.toNat_natCast, made_flat secCells_length (by decide)]
  clear hI
  have g1 : ¬ (n : Int) < 1 := by omega
  have g2 : ¬ (16384 : Int) < (n : Int) := by omega
  go_enter Tryz.func10, Tryz.ntmps10
  go_wp2_with fail
  have hl : (List.replicate n Dk.noughts).length = n := List.length_replicate
  have hR : Row (w.alloc (.cells ((List.replicate n Dk.noughts).flatMap secCells).toArray 117)) w.heap.size 117 ((List.replicate n Dk.noughts).flatMap secCells ++ []) := by
    rw [List.append_nil]; exact Row.new w _ _
  have hc := of_is _ _ n (List.replicate n Dk.noughts) [] hR (by rw [hl]; exact h1) (by rw [hl]; exact hn) (by rw [hl]; exact Nat.le_refl _) (by unfold maxLen; omega) (fun s hs => by rw [(List.mem_replicate.1 hs).2]; exact Dk.noughts_ok)
  rw [hl] at hc
  refine hc.mono ?_
  rintro e w1 ⟨d, rfl, k1, k2, k3⟩
  have K1 := Lib.hid k1
  have K2 := Lib.hid k2
  have K3 := Lib.hid k3
  clear k1 k2 k3
  go_wp2
  go_ret2
  have hs := K1.out
  rw [size_alloc] at hs
  refine ⟨d, rfl, by omega, ?_, ((Touch.refl No w).alloc _).trans K3.out⟩
  obtain ⟨gs, gn, cs, cn, rs, rn, vw, h, o1, o2, o3, o4⟩ := K2.out
  have P : ∀ k, (k = w.heap.size ∨ (w.alloc (.cells ((List.replicate n Dk.noughts).flatMap secCells).toArray 117)).heap.size ≤ k) → w.heap.size ≤ k := fun k hk => by
    rw [size_alloc] at hk; omega
  exact ⟨gs, gn, cs, cn, rs, rn, vw, h, P _ o1, P _ o2, P _ o3, fun k hk => P _ (o4 k hk)⟩
set_option maxHeartbeats 2000000 in
theorem sync_in (w : World) (d : Nat) (D : Dk.Disk) (O : Nat → Prop) (h : DiskAt w d D O) :
    Calls Tryz.prog 172 #[.pointer (some ⟨d, 0, none⟩)] w fun e w' => e = .returned (.int .i64 0) ∧ Touch O w w' ∧ DiskAt w' d (Dk.sync D) (fun k => O k ∨ w.heap.size ≤ k) := by
  have H := Lib.hid h
  have ok := h.ok
  have Hd := Lib.hid h.lt
  obtain ⟨gs, gn, cs, cn, rs, rn, vw, h, o1, o2, o3, o4⟩ := h
  have hc := h.c1
  have Hi := Lib.hid h
  have Hok := Lib.hid ok
  have e0 : askSays D.seen.length 0 = 0 := by
    have := ok.pos
    unfold askSays; rw [if_pos (by omega)]
  clear h ok
  have Hc := Lib.hid hc
  clear hc
  go_enter Tryz.func172, Tryz.ntmps172
  go_wp2_with fail
  refine (ask_any w d D O _ H.out).mono ?_
  rintro e w' ⟨rfl, rfl⟩
  rw [e0]
  have hc := Hc.out
  go_wp2_with fail
  refine (clone_secs w gn cn D.seen rn Hi.out.seen Hok.out.top).mono ?_
  rintro e w1 ⟨g', c', r', rfl, k1, k2, k3, k4, k5⟩
  clear hc
  have f0 : w1.frozen? ⟨d, 0, none⟩ = false := (k5.frozen Hd.out id 0).trans (Hi.out.soft 0)
  have f2 : w1.frozen? ⟨d, 2, none⟩ = false := (k5.frozen Hd.out id 2).trans (Hi.out.soft 2)
  have c0 := k5.cell (id : No d → False) Hi.out.c0
  have c2 := k5.cell (id : No d → False) Hi.out.c2
  have K1 := Lib.hid k1
  have K2 := Lib.hid k2
  have K3 := Lib.hid k3
  have K4 := Lib.hid k4
  have K5 := Lib.hid k5
  have C0 := Lib.hid c0
  have C2 := Lib.hid c2
  clear k1 k2 k3 k4 k5
  go_wp2
  go_ret
  have T2 : Touch (One d) w1 ((w1.setCell ⟨d, 0, none⟩ (.slice (some ⟨g', 0, none⟩) D.seen.length c')).setCell ⟨d, 2, none⟩ (.slice none 0 0)) := ((Touch.refl (One d) w1).setCell (p := ⟨d, 0, none⟩) (fun _ => rfl) _).setCell (p := ⟨d, 2, none⟩) (fun _ => rfl) _
  have d1 : d < w1.heap.size := Nat.lt_of_lt_of_le Hd.out K5.out.size
  have eg : g' ≠ d := fun e => by have := K1.out; have := Hd.out; omega
  have sn := Hi.out.seen.touch K5.out id
  refine ⟨rfl, (Touch.no (F := O) K5.out).then T2 (fun i _ e => by rw [show i = d from e]; exact o1), g', gn, c', cn, r', rn, .slice none 0 0, ⟨Dk.sync_ok Hok.out, ?_, ?_, ?_, fun o => ?_, K2.out.touch T2 eg, sn.touch T2 (fun e => Hi.out.ne.2.1 e.symm), K3.out, Hi.out.lcn, K4.out, Hi.out.mcn, ⟨rfl, Or.inl ⟨rfl, rfl⟩⟩, ⟨Ne.symm eg, Hi.out.ne.2.1, fun e => ?_⟩, fun k hk => by cases hk⟩, Or.inl o1, Or.inr K1.out, Or.inl o3, fun k hk => by cases hk⟩
  · rw [cell_set_ne (Or.inr (by decide))]; exact cell_set C0.out
  · rw [cell_set_ne (Or.inr (by decide)), cell_set_ne (Or.inr (by decide))]; exact K5.out.cell (id : No d → False) Hi.out.c1
  · exact cell_set ((cell_set_ne (Or.inr (by decide))).trans C2.out)
  · rw [World.frozen?_setCell, World.frozen?_setCell]; exact (K5.out.frozen Hd.out id o).trans (Hi.out.soft o)
  · have := K1.out; have := Hi.out.seen.lt; omega
end Go.Proofs.YtpmkegbgbldpnaaGreatDoor
