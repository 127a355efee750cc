/-
  Package nums by its own text: GetList.
-/
import Derived.Test.YtmjeigceclmdoaaGreatDoorChunk
namespace Go.Proofs.YtmjeigceclmdoaaGreatDoor
open Go Go.RowKit
set_option linter.unusedSimpArgs false

theorem getFour_short (w : World) (a : Option Addr) (n c : Nat) (b : List Nat) (hb : b.length = n) (hn : n < 4) (hr : Rd w a (nums .u8 b)) (hlt : ∀ x ∈ b, x < 256) :
    Calls Tryz.prog 24 #[.slice a n c] w fun e w' => e = .returned (.tuple #[.int .u32 0, .int .i64 5]) ∧ Touch No w w' :=
  (getFour_any w a n c b hb (by omega) hr hlt).mono fun e w' ⟨he, ht⟩ => ⟨by rw [he, if_pos (by omega), if_pos (by omega)]; rfl, ht⟩
theorem getFour_ok (w : World) (a : Option Addr) (n c : Nat) (b : List Nat) (hb : b.length = n) (hmax : (n : Int) ≤ 9223372036854775807) (hn : 4 ≤ n) (hr : Rd w a (nums .u8 b)) (hlt : ∀ x ∈ b, x < 256) :
    Calls Tryz.prog 24 #[.slice a n c] w fun e w' => e = .returned (.tuple #[.int .u32 (Rt.unfour b : Nat), .int .i64 0]) ∧ Touch No w w' :=
  (getFour_any w a n c b hb hmax hr hlt).mono fun e w' ⟨he, ht⟩ => ⟨by rw [he, if_neg (by omega), if_neg (by omega)]; rfl, ht⟩

theorem chunk_any (w : World) (a : Option Addr) (M cap : Nat) : Calls Tryz.prog 139 #[.slice a M cap, .int .i64 4] w fun e w' =>
    e = .returned (.func (.func 206) #[] #[.pointer (some ⟨w.heap.size, 0, none⟩), .pointer (some ⟨w.heap.size + 1, 0, none⟩)]) ∧ (w.alloc (.cells #[.slice a M cap] 22)).alloc (.cells #[.int .i64 4] 3) = w' := by
  have hmf : ∀ (fn : Fn) (first cap : Array Value) (w : World), (Instr.makeFunc fn first cap).run Tryz.prog w = .ok (.func fn first cap) w := fun _ _ _ _ => rfl
  go_enter Tryz.func139, Tryz.ntmps139
  go_wp2
  go_ret
  exact ⟨rfl, rfl⟩

def CollectPost (w : World) (g o m : Nat) (e : Ending) (w' : World) : Prop :=
  ∃ a c, e = .returned (.slice a m c) ∧ Own w' w.heap.size 22 (.slice a m c) (pieces g o m) ∧ Touch No w w'

theorem collect_any (w : World) (Bs Bn m M : Nat) (hM : 4 * m = M) (a : Option Addr) (cap g o : Nat) (ha : 0 < m → a = some ⟨g, o, none⟩) (hcap : M ≤ cap) (hmax : (cap : Int) ≤ 9223372036854775807) (hm : m ≤ 1000000000) (hBs : Bs < w.heap.size) (hBn : Bn < w.heap.size)
    (hs : w.cell? ⟨Bs, 0, none⟩ = some (.slice a M cap)) (hk : w.cell? ⟨Bn, 0, none⟩ = some (.int .i64 4)) :
    Calls Tryz.prog 138 #[.func (.func 206) #[] #[.pointer (some ⟨Bs, 0, none⟩), .pointer (some ⟨Bn, 0, none⟩)]] w (CollectPost w g o m) := by
  have Hc := Lib.hid (callsIn_wide.1 (appendSeq_in 3 (Nat.le_refl _) Bs Bn m M hM a cap g o ha hcap hmax hm w hBs hBn hs hk))
  clear hs hk ha hM hm
  go_enter Tryz.func138, Tryz.ntmps138
  go_wp2_with fail
  refine Hc.out.mono ?_
  rintro e w' ⟨v, rfl, ho, hb⟩
  have hO : Own w' w.heap.size 22 v (pieces g o m) := by rw [Own, pieces_length]; exact ho
  obtain ⟨a', c', rfl, _⟩ := hO.form' (n := m) (pieces_length _ _ _)
  have HO := Lib.hid hO
  have HT := Lib.hid ((Touch.of_below hb).mono (G := No) (fun k hk f => absurd hk (Nat.not_lt.2 f)))
  clear ho hb hO Hc
  go_wp2
  go_ret
  exact ⟨_, _, rfl, HO.out, HT.out⟩

def GetListPost (w : World) (b : List Nat) (e : Ending) (w' : World) : Prop :=
  ∃ a c n, n = (Nm.get b).length ∧ e = .returned (.tuple #[.slice a n c, .int .i64 (Nm.took b : Nat), .int .i64 (Nm.err b : Nat)]) ∧ Own w' w.heap.size 21 (.slice a n c) (ints .i32 (Nm.get b)) ∧ Touch No w w'
theorem getList_no {w w' : World} {b : List Nat} {E : Nat} (hE : Nm.err b = E) (h0 : E ≠ 0) (t : Touch No w w') : GetListPost w b (.returned (.tuple #[.slice none 0 0, .int .i64 0, .int .i64 (E : Nat)])) w' := by
  have h1 : Nm.get b = [] := by rw [Nm.get, if_neg (by omega)]
  have h2 : Nm.took b = 0 := by rw [Nm.took, if_neg (by omega)]
  exact ⟨none, 0, 0, by rw [h1]; rfl, by rw [h2, hE]; rfl, by rw [h1]; exact Own.nil _ _ _, t⟩

set_option maxRecDepth 100000 in
set_option maxHeartbeats 4000000 in
theorem getList_any (w : World) (a : Option Addr) (n c : Nat) (b : List Nat) (hb : b.length = n) (hnc : n ≤ c) (hmax : (c : Int) ≤ 9223372036854775807) (hr : Rd w a (nums .u8 b)) (hlt : ∀ x ∈ b, x < 256) :
    Calls Tryz.prog 26 #[.slice a n c] w (GetListPost w b) := by
  by_cases h4 : n < 4
  · have Hc := Lib.hid (getFour_short w a n c b hb h4 hr hlt)
    have hE : Nm.err b = 5 := by rw [Nm.err, if_pos (by omega)]
    have Fin := Lib.hid (fun w' t => getList_no (w := w) (w' := w') hE (by decide) t)
    clear hb hr hlt hE h4
    go_enter Tryz.func26, Tryz.ntmps26
    go_wp2_with fail
    refine Hc.out.mono ?_
    rintro e w1 ⟨rfl, t1⟩
    have T1 := Lib.hid t1
    clear t1
    go_wp2
    go_ret3
    exact Fin.out _ T1.out
  have Hc := Lib.hid (getFour_ok w a n c b hb (by omega) (by omega) hr hlt)
  have hm32 := Rt.unfour_lt hlt
  obtain ⟨m, hm⟩ : ∃ m, Rt.unfour b = m := ⟨_, rfl⟩
  rw [hm] at Hc hm32
  have hmany : Nm.many b = m := hm
  by_cases h5 : 4096 < m
  · have hE : Nm.err b = 3 := by rw [Nm.err, if_neg (by omega), hmany, if_pos h5]
    have Fin := Lib.hid (fun w' t => getList_no (w := w) (w' := w') hE (by decide) t)
    have h5' : (4096 : Int) < (m : Nat) := by omega
    clear hb hr hlt hE h4 h5 hm hmany
    go_enter Tryz.func26, Tryz.ntmps26
    go_wp2_with fail
    refine Hc.out.mono ?_
    rintro e w1 ⟨rfl, t1⟩
    have T1 := Lib.hid t1
    clear t1
    go_wp2
    go_ret3
    exact Fin.out _ T1.out
  have h5' : ¬ (4096 : Int) < (m : Nat) := by omega
  by_cases h6 : n < 4 + 4 * m
  · have hE : Nm.err b = 5 := by rw [Nm.err, if_neg (by omega), hmany, if_neg h5, if_pos (by omega)]
    have Fin := Lib.hid (fun w' t => getList_no (w := w) (w' := w') hE (by decide) t)
    have h6' : (n : Int) < 4 + 4 * (m : Nat) := by omega
    clear hb hr hlt hE h4 h5 hm hmany h6
    go_enter Tryz.func26, Tryz.ntmps26
    go_wp2_with fail
    refine Hc.out.mono ?_
    rintro e w1 ⟨rfl, t1⟩
    have T1 := Lib.hid t1
    clear t1
    go_wp2
    go_ret3
    exact Fin.out _ T1.out
  obtain ⟨I, hi0, hi1, hi2, hi3⟩ := u8_info
  obtain ⟨M, hM⟩ : ∃ M, 4 * m = M := ⟨_, rfl⟩
  have hE : Nm.err b = 0 := by rw [Nm.err, if_neg (by omega), hmany, if_neg h5, if_neg (by omega)]
  have hG : Nm.get b = (List.range m).map fun k => Nm.i (Rt.unfour ((b.drop 4).drop (4 * k))) := by
    rw [Nm.get, if_pos hE, hmany]
    refine List.map_congr_left (fun k _ => ?_)
    rw [Nm.nth, List.drop_drop]
  have hT : Nm.took b = 4 + M := by rw [Nm.took, if_pos hE, hmany, hM]
  have h6' : ¬ (n : Int) < 4 + 4 * (m : Nat) := by omega
  have hcut : ∀ wx : World, (Instr.slice 22 (.slice a n c) (some (.int .i64 4)) (some (.int .i64 (4 + 4 * (m : Int)))) none).run Tryz.prog wx = .ok (.slice (cutAddr a c 4) M (c - 4)) wx := fun wx => by
    have := run_cut2 Tryz.underlying22 hi0 hi2 a n c 4 (4 + M) .i64 .i64 (by omega) (by omega) wx
    rw [show 4 + M - 4 = M by omega, show ((4 + M : Nat) : Int) = 4 + 4 * (m : Int) by omega] at this
    exact this
  have hrc := hr.cut (cap := c) (l := 4) (by rw [nums_length]; omega)
  rw [show (nums .u8 b).drop 4 = nums .u8 (b.drop 4) by simp [nums, List.map_drop]] at hrc
  obtain ⟨g, o, hgo⟩ : ∃ g o, 0 < m → cutAddr a c 4 = some ⟨g, o, none⟩ := by
    by_cases h0 : 0 < m
    · obtain ⟨g, o, e, _⟩ := hrc.num (i := 0) (by rw [List.length_drop]; omega)
      exact ⟨g, o, fun _ => e⟩
    · exact ⟨0, 0, fun h => absurd h h0⟩
  have HGO := Lib.hid hgo
  have HM := Lib.hid hM
  have HR := Lib.hid hrc
  have HL := Lib.hid hlt
  have HB := Lib.hid (show 4 * m ≤ (b.drop 4).length by rw [List.length_drop]; omega)
  have HG := Lib.hid hG
  have HT := Lib.hid hT
  have HE := Lib.hid hE
  have hc4 : M ≤ c - 4 := by omega
  clear hb hr hlt hm hmany hi0 hi1 hi2 hi3 hM hE hG hT hgo hrc
  go_enter Tryz.func26, Tryz.ntmps26
  go_wp2_with fail
  refine Hc.out.mono ?_
  rintro e w1 ⟨rfl, t1⟩
  have T1 := Lib.hid t1
  clear t1 Hc
  go_wp2_with fail
  refine (chunk_any _ _ _ _).mono ?_
  rintro e w2 ⟨rfl, hw2⟩
  have T2 := Lib.hid (show Touch No w w2 by rw [← hw2]; exact (T1.out.alloc _).alloc _)
  have k1 : w2.cell? ⟨w1.heap.size, 0, none⟩ = some (.slice (cutAddr a c 4) M (c - 4)) := by
    rw [← hw2, cell_old _ _ (by simp), cell_new]; rfl
  have k2 : w2.cell? ⟨w1.heap.size + 1, 0, none⟩ = some (.int .i64 4) := by
    rw [← hw2]
    have := cell_new (w1.alloc (.cells #[.slice (cutAddr a c 4) M (c - 4)] 22)) #[.int .i64 4] 3 (0, 0) 0
    rw [size_alloc] at this; exact this
  have hs2 : w1.heap.size + 1 < w2.heap.size := by rw [← hw2]; simp
  have K1 := Lib.hid k1
  have K2 := Lib.hid k2
  clear hw2 T1 hcut k1 k2
  go_wp2_with fail
  refine (collect_any w2 _ _ m M HM.out _ _ g o HGO.out hc4 (by omega) (by omega) (by omega) hs2 K1.out K2.out).mono ?_
  rintro e w3 ⟨a3, c3, rfl, O3, t3⟩
  have R3 := Lib.hid O3.rd
  have T3 := Lib.hid (T2.out.trans t3)
  clear O3 t3 K1 K2 T2 hs2
  go_wp2_with fail
  refine (asI_any w3 a3 m c3 g o (b.drop 4) R3.out HB.out (fun h0 => by rw [← HGO.out h0]; exact HR.out.no T3.out) (fun x hx => HL.out x (List.mem_of_mem_drop hx)) (by omega)).mono ?_
  rw [← HG.out]
  rintro e w4 ⟨a4, c4, rfl, O4, t4⟩
  have O5 := Lib.hid (O4.mono (base' := w.heap.size) T3.out.size)
  have T4 := Lib.hid (T3.out.trans t4)
  clear O4 t4 T3 R3
  go_wp2
  go_ret3
  exact ⟨a4, c4, m, by rw [HG.out]; simp, by rw [HT.out, HE.out, ← HM.out]; congr 1, O5.out, T4.out⟩
end Go.Proofs.YtmjeigceclmdoaaGreatDoor
