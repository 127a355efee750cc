/-
  Package drydocklaw01 by its own text: the walk of NumsMany.
-/
import Derived.Test.YtdafoaehldnjmaaAlive01
namespace Go.Proofs.Ytdafoaehldnjmaa
open Go Go.RowKit
set_option linter.unusedSimpArgs false

theorem many_row (M : Nat) (last : Int) : (List.replicate (M + 1) (Value.int .i32 0)).set M (.int .i32 last) = ints .i32 (List.replicate M 0 ++ [last]) := by
  refine List.ext_getElem? (fun j => ?_)
  rw [ints, List.map_append, List.map_replicate, List.getElem?_set, List.getElem?_append]
  simp only [List.length_replicate, List.getElem?_replicate]
  by_cases h1 : M = j
  · subst h1; simp
  · by_cases h2 : j < M
    · simp [h1, h2, show j < M + 1 by omega]
    · have h3 : j - M ≠ 0 := by omega
      have h4 : ¬ j < M + 1 := by omega
      simp [h1, h2, h4, List.getElem?_singleton, h3]

set_option maxRecDepth 100000 in
set_option maxHeartbeats 8000000 in
theorem numsMany_walk (w : World) (near : Nat) (hnear : near < 256) (last : Int) (hb : -2147483648 ≤ last ∧ last ≤ 2147483647) :
    Calls Try.prog 4 #[.int .u8 (near : Nat), .int .i32 last] w (LawPost w) := by
  obtain ⟨r, hr⟩ : ∃ r, near % 14 = r := ⟨_, rfl⟩
  obtain ⟨M, hM⟩ : ∃ M, 4089 + r = M := ⟨_, rfl⟩
  have hr14 : r < 14 := by omega
  have hrem : (near : Int) % 14 = (r : Nat) := by omega
  have hsum : (4090 : Int) + (r : Int) = (M : Int) + 1 := by omega
  obtain ⟨I, hi0, hi1, hi2, hi3⟩ := i32_info
  have hmk : ∀ wx : World, (Instr.makeSlice 23 (.int .i64 ((M : Int) + 1)) (.int .i64 ((M : Int) + 1))).run Try.prog wx = .ok (.slice (some ⟨wx.heap.size, 0, none⟩) (M + 1) (M + 1)) (wx.alloc (.cells (List.replicate (M + 1) (Value.int .i32 0)).toArray 21)) := fun wx => by
    have := run_make (P := Try.prog) wx 23 21 I (.int .i32 0) Try.underlying23 hi0 hi1 .i64 .i64 ((M : Int) + 1) ((M : Int) + 1) (by omega) (by omega) (by rw [hi3]; omega) (by omega)
    rw [this, hi2, Nat.mul_one, show ((M : Int) + 1).toNat = M + 1 by omega]
    show Result.ok _ (wx.alloc (.cells (madeCells #[Value.int .i32 0] _) _)) = _
    rw [made_fill]
  have hrow0 : Row (w.alloc (.cells (List.replicate (M + 1) (Value.int .i32 0)).toArray 21)) w.heap.size 21 (List.replicate (M + 1) (Value.int .i32 0)) := Row.new w 21 _
  have hcell : (w.alloc (.cells (List.replicate (M + 1) (Value.int .i32 0)).toArray 21)).cell? ⟨w.heap.size, M, none⟩ = some (.int .i32 0) := by
    rw [hrow0.cell, List.getElem?_replicate, if_pos (by omega)]
  have hsoft := hrow0.soft M
  obtain ⟨zs, hzs⟩ : ∃ zs, zs = List.replicate M (0 : Int) ++ [last] := ⟨_, rfl⟩
  have Hzs := Lib.hid hzs
  have hlen : zs.length = M + 1 := by rw [hzs]; simp
  have h32 : ∀ z ∈ zs, -2147483648 ≤ z ∧ z ≤ 2147483647 := by
    intro z hz
    rw [hzs] at hz
    rcases List.mem_append.1 hz with h | h
    · rw [(List.mem_replicate.1 h).2]; omega
    · rw [List.mem_singleton.1 h]; exact hb
  have HLen := Lib.hid hlen
  have H32 := Lib.hid h32
  have hMi : (M : Int) ≤ 4102 := by omega
  have hM0 : (4089 : Int) ≤ (M : Int) := by omega
  have Hr := Lib.hid hr
  have HMr := Lib.hid hM
  clear hrow0 hzs hlen h32 hi0 hi1 hi2 hi3 hr hM
  go_enter Try.func4, Try.ntmps4
  go_wp2_with fail
  obtain ⟨W, hW⟩ : ∃ W, W = w.alloc (.cells ((Array.replicate (M + 1) (Value.int .i32 0)).setIfInBounds M (.int .i32 last)) 21) := ⟨_, rfl⟩
  have hTW : Touch No w W := by rw [hW]; exact (Touch.refl No w).alloc _
  have hRW : Rd W (some ⟨w.heap.size, 0, none⟩) (ints .i32 zs) := by
    have := rd_new w 21 ((Array.replicate (M + 1) (Value.int .i32 0)).setIfInBounds M (.int .i32 last)) (0, 0)
    rw [hW]
    rw [Array.toList_setIfInBounds, Array.toList_replicate, many_row, ← Hzs.out] at this
    exact this
  rw [← hW]
  have HTW := Lib.hid hTW
  have HRW := Lib.hid hRW
  clear hW hTW hRW hcell hsoft hmk
  refine (putList_any _ none 0 0 [] rfl (Rd.nil _ _) _ (M + 1) (M + 1) zs HLen.out HRW.out (by omega) (by decide) (4 + 4 * (M + 1)) (by omega)).mono ?_
  rintro e w2 ⟨a2, c2, rfl, o2, t2⟩
  obtain ⟨hnc, hcm, hpl⟩ := o2.room
  have ho2 : Rd w2 a2 (nums .u8 (Nm.put zs)) := o2.rd
  have HPL := Lib.hid (Nm.put_length zs)
  have HR2 := Lib.hid ho2
  have HT2 := Lib.hid (HTW.out.trans t2)
  have HZ2 := Lib.hid (HRW.out.no t2)
  clear o2 t2 ho2 HTW HRW hpl
  obtain ⟨Q, hQ⟩ : ∃ Q, Q = 4 + 4 * (M + 1) := ⟨_, rfl⟩
  rw [← hQ] at hnc ⊢
  have hq4 : (4 : Int) ≤ (Q : Nat) := by omega
  have HQ := Lib.hid hQ
  obtain ⟨J, hi0, hi1, hi2, hi3⟩ := u8_info
  have hh : ∀ wx : World, (Instr.slice 24 (.slice a2 Q c2) none (some (.int .i64 4)) none).run Try.prog wx = .ok (.slice a2 4 c2) wx := fun wx => run_head Try.underlying24 hi0 hi2 a2 Q c2 4 .i64 (by omega) wx
  clear hi0 hi1 hi2 hi3 hQ
  have hlP : (Nm.put zs).length = Q := by rw [HPL.out, HLen.out, HQ.out]
  have hl4 : ((Nm.put zs).take 4).length = 4 := by rw [List.length_take]; omega
  have HlP := Lib.hid hlP
  have Hl4 := Lib.hid hl4
  have Hlt := Lib.hid (Nm.put_lt zs)
  clear hlP hl4
  have hz32 : Hid (zs.length < 4294967296) := by show _ < _; rw [HLen.out]; omega
  by_cases hbig : 4096 < M + 1
  · have hE := Nm.err_big (l := zs) (by rw [HLen.out]; exact hbig) hz32.out
    have h1 := Nm.get_err (b := Nm.put zs) (by rw [hE.1]; decide)
    have h2 := Nm.get_err (b := (Nm.put zs).take 4) (by rw [hE.2]; decide)
    have HE := Lib.hid hE
    have H1 := Lib.hid h1
    have H2 := Lib.hid h2
    have hbig' : (4096 : Int) < (M : Int) + 1 := by omega
    clear hE h1 h2 hbig
    go_wp2_with fail
    refine (getList_at _ a2 Q c2 (Nm.put zs) HlP.out hnc hcm HR2.out Hlt.out [] 0 0 3 H1.out.1 rfl H1.out.2 HE.out.1).mono ?_
    rintro e w3 ⟨a3, c3, rfl, o3, t3⟩
    have HT3 := Lib.hid (HT2.out.trans t3)
    have HR3 := Lib.hid (HR2.out.no t3)
    clear o3 t3 HT2 HR2
    go_wp2_with fail
    refine (getList_at _ a2 4 c2 ((Nm.put zs).take 4) Hl4.out (by omega) hcm (by have := HR3.out.take 4; rw [nums, ← List.map_take] at this; exact this) (fun x hx => Hlt.out x (List.mem_of_mem_take hx)) [] 0 0 3 H2.out.1 rfl H2.out.2 HE.out.2).mono ?_
    rintro e w4 ⟨a4, c4, rfl, o4, t4⟩
    have HT4 := Lib.hid (HT3.out.trans t4)
    clear o4 t4 HT3 HR3
    go_wp2_with fail
    refine (alive_is _).mono ?_
    rintro e w5 ⟨rfl, t5⟩
    have HT5 := Lib.hid (HT4.out.trans t5)
    clear t5 HT4
    go_wp2
    go_ret
    exact ⟨rfl, HT5.out⟩
  · have hgp := Nm.get_put zs (by rw [HLen.out]; omega) H32.out []
    rw [List.append_nil] at hgp
    have htk := Nm.took_put (l := zs) (by rw [HLen.out]; omega) H32.out []
    rw [List.append_nil, HLen.out, ← HQ.out] at htk
    have hE2 := Nm.err_head (l := zs) (by rw [HLen.out]; omega) (by rw [HLen.out]; omega)
    have h2 := Nm.get_err (b := (Nm.put zs).take 4) (by rw [hE2]; decide)
    have HG := Lib.hid hgp
    have HK := Lib.hid htk
    have HE2 := Lib.hid hE2
    have H2 := Lib.hid h2
    have hbig' : ¬ (4096 : Int) < (M : Int) + 1 := by omega
    clear hgp htk hE2 h2 hbig
    go_wp2_with fail
    refine (getList_at _ a2 Q c2 (Nm.put zs) HlP.out hnc hcm HR2.out Hlt.out zs (M + 1) Q 0 HG.out.2.1 HLen.out HK.out HG.out.1).mono ?_
    rintro e w3 ⟨a3, c3, rfl, o3, t3⟩
    have HT3 := Lib.hid (HT2.out.trans t3)
    have HR3 := Lib.hid (HR2.out.no t3)
    have HZ3 := Lib.hid (HZ2.out.no t3)
    have HO3 := Lib.hid o3.rd
    clear o3 t3 HT2 HR2 HZ2
    go_wp2_with fail
    refine (getList_at _ a2 4 c2 ((Nm.put zs).take 4) Hl4.out (by omega) hcm (by have := HR3.out.take 4; rw [nums, ← List.map_take] at this; exact this) (fun x hx => Hlt.out x (List.mem_of_mem_take hx)) [] 0 0 5 H2.out.1 rfl H2.out.2 HE2.out).mono ?_
    rintro e w4 ⟨a4, c4, rfl, o4, t4⟩
    have HT4 := Lib.hid (HT3.out.trans t4)
    have HZ4 := Lib.hid (HZ3.out.no t4)
    have HO4 := Lib.hid (HO3.out.no t4)
    clear o4 t4 HT3 HR3 HZ3 HO3
    go_wp2_with fail
    refine (alive_is _).mono ?_
    rintro e w5 ⟨rfl, t5⟩
    have HT5 := Lib.hid (HT4.out.trans t5)
    have HZ5 := Lib.hid (HZ4.out.no t5)
    have HO5 := Lib.hid (HO4.out.no t5)
    clear t5 HT4 HZ4 HO4
    go_wp2_with fail
    refine (sameN_any _ a3 _ (M + 1) c3 (M + 1) zs HLen.out (by omega) HO5.out HZ5.out).mono ?_
    rintro e w6 ⟨rfl, t6⟩
    have HT6 := Lib.hid (HT5.out.trans t6)
    clear t6 HT5 HZ5 HO5
    go_wp2
    go_ret
    exact ⟨rfl, HT6.out⟩
end Go.Proofs.Ytdafoaehldnjmaa
