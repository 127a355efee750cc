/-
  Package shadows by its own text: numbers.
  A store in memory, turned: its cells, its maps, its lists.
-/
import Derived.Test.YtnffigfafalocaaGreatDoorK21
namespace Go.Proofs.YtnffigfafalocaaGreatDoor
open Go Go.RowKit Go.Maps
set_option linter.unusedSimpArgs false
set_option linter.unusedVariables false

/-- the first numbers in bytes -/
def Sh.nums (b : List Nat) (n : Nat) : List Nat := (List.range n).map fun i => Rt.unfour (b.drop (4 * i))
theorem Sh.nums_length (b : List Nat) (n : Nat) : (Sh.nums b n).length = n := by simp [Sh.nums]
theorem Sh.nums_succ (b : List Nat) (n : Nat) : Sh.nums b (n + 1) = Sh.nums b n ++ [Rt.unfour (b.drop (4 * n))] := by rw [Sh.nums, List.range_succ, List.map_append]; rfl
theorem Sh.nums_lt {b : List Nat} (h : ∀ x ∈ b, x < 256) (n : Nat) : ∀ x ∈ Sh.nums b n, x < 4294967296 := fun x hx => by
  obtain ⟨i, _, rfl⟩ := List.mem_map.1 hx
  exact Rt.unfour_lt (fun y hy => h y (List.mem_of_mem_drop hy))
def NumbersPost (w : World) (a : Option Addr) (n c : Nat) (b : List Nat) (cnt : Nat) (e : Ending) (w' : World) : Prop :=
  ∃ al cl a' p q, e = .returned (.tuple #[.slice al cnt cl, .slice a' p q]) ∧ p + 4 * cnt = n ∧ q + 4 * cnt = c ∧ Own w' w.heap.size 38 (.slice al cnt cl) (nums .u32 (Sh.nums b cnt)) ∧ (∀ W, Rd W a (nums .u8 b) → Rd W a' (nums .u8 (b.drop (4 * cnt)))) ∧ (∀ ad, a' = some ad → ∃ ad0, a = some ad0 ∧ ad0.block = ad.block) ∧ Touch No w w'
theorem cut_block {a : Option Addr} {c l : Nat} {ad : Addr} (h : cutAddr a c l = some ad) : ∃ ad1, a = some ad1 ∧ ad1.block = ad.block := by
  unfold cutAddr at h
  split at h
  · exact ⟨_, h, rfl⟩
  · cases a with
    | none => cases h
    | some ad1 =>
      refine ⟨ad1, rfl, ?_⟩
      simp only [Option.map_some, Option.some.injEq, Addr.add] at h
      rw [← h]
      split <;> rfl
theorem rd_new1 (w : World) (T : TypeId) (v : Value) : Rd (w.alloc (.cells #[v] T)) (some ⟨w.heap.size, 0, none⟩) [v] := by
  intro i u hi
  match i, hi with
  | 0, hi =>
    have : v = u := by simpa using hi
    subst this
    exact ⟨_, _, rfl, by rw [cell_new]; rfl⟩

set_option maxRecDepth 100000 in
set_option maxHeartbeats 4000000 in
theorem shNumbers_all (w : World) (a : Option Addr) (n c : Nat) (b : List Nat) (hb : b.length = n) (hnc : n ≤ c) (hmax : (c : Int) ≤ 1000000000000) (hr : Rd w a (nums .u8 b)) (hlt : ∀ x ∈ b, x < 256) :
    Calls Tryz.prog 160 #[.slice a n c, .slice none 0 0] w (NumbersPost w a n c b (b.length / 4)) := by
  have Hb := Lib.hid hb
  have Hr := Lib.hid hr
  have Hlt := Lib.hid hlt
  have Hnc := Lib.hid hnc
  have Hmax := Lib.hid hmax
  obtain ⟨I, hi0, hi1, hi2, hi3⟩ := u32_info
  obtain ⟨J, hj0, hj1, hj2, hj3⟩ := u8_info
  have HI := Lib.hid (And.intro hi0 (And.intro hi1 (And.intro hi2 hi3)))
  have HJ := Lib.hid (And.intro hj0 hj2)
  obtain ⟨cnt, hcnt⟩ : ∃ cnt, (b.length / 4) = cnt := ⟨_, rfl⟩
  rw [hcnt]
  have Hcnt := Lib.hid hcnt
  have Hc4 : Hid (4 * cnt ≤ n) := by show _ ≤ _; rw [← hcnt]; rw [hb]; omega
  clear hb hr hlt hnc hmax hi0 hi1 hi2 hi3 hj0 hj1 hj2 hj3 hcnt
  go_enter Tryz.func160, Tryz.ntmps160
  go_wp2
  go_loopg [0, 4] cnt (fun g s0 s4 wr => ∃ (k p q : Nat) (a' al : Option Addr) (cl : Nat), k + g = cnt ∧ p + 4 * k = n ∧ q + 4 * k = c ∧ s0 = .slice a' p q ∧ s4 = .slice al k cl ∧ Hid (Own wr w.heap.size 38 (.slice al k cl) (nums .u32 (Sh.nums b k))) ∧ Hid (Touch No w wr) ∧ Hid (∀ W, Rd W a (nums .u8 b) → Rd W a' (nums .u8 (b.drop (4 * k)))) ∧ Hid (∀ ad, a' = some ad → ∃ ad0, a = some ad0 ∧ ad0.block = ad.block))
  case atStart => exact ⟨0, n, c, a, none, 0, by omega, by omega, by omega, rfl, rfl, Own.nil _ _ _, Touch.refl _ _, fun W h => h, fun ad e => ⟨_, e, rfl⟩⟩
  case round =>
    obtain ⟨k, p, q, a', al, cl, hkg, hp, hq, rfl, rfl, O, T, R, B⟩ := hrel
    have hpl : Hid ((b.drop (4 * k)).length = p) := by show _ = _; rw [List.length_drop, Hb.out]; omega
    have hpq : p ≤ q := by have := Hnc.out; omega
    have hq12 : (q : Int) ≤ 1000000000000 := by have := Hmax.out; omega
    cases gk with
    | zero =>
      obtain rfl : k = cnt := by omega
      have Fin : Hid (∀ wx, Touch No wr wx → NumbersPost w a n c b k (.returned (.tuple #[.slice al k cl, .slice a' p q])) wx) := fun wx t =>
        ⟨al, cl, a', p, q, rfl, hp, hq, O.out.touch t (fun _ _ _ f => f), R.out, B.out, T.out.trans t⟩
      have hlt4 : ¬ (4 : Int) ≤ (p : Nat) := by have := Hcnt.out; have := Hb.out; omega
      have hltd : decide ((4 : Int) ≤ (p : Nat)) = false := decide_eq_false hlt4
      clear O R B
      go_wp2
      go_ret2
      exact Fin.out _ (Touch.refl No wr)
    | succ g =>
      have h4 : 4 ≤ p := by have := Hc4.out; omega
      have h4i : (4 : Int) ≤ (p : Nat) := by omega
      have h4d : decide ((4 : Int) ≤ (p : Nat)) = true := decide_eq_true h4i
      obtain ⟨x, hx⟩ : ∃ x, Rt.unfour (b.drop (4 * k)) = x := ⟨_, rfl⟩
      have hcut : ∀ wx : World, (Instr.slice 39 (.slice a' p q) (some (.int .i64 4)) none none).run Tryz.prog wx = .ok (.slice (cutAddr a' q 4) (p - 4) (q - 4)) wx := fun wx => run_cut Tryz.underlying39 HJ.out.1 HJ.out.2 a' p q 4 .i64 h4 wx
      have C := Lib.hid (getFour_ok wr a' p q (b.drop (4 * k)) x hpl.out h4 (by omega) ((R.out w Hr.out).no T.out) (fun y hy => Hlt.out y (List.mem_of_mem_drop hy)) hx)
      have HN : Hid (nums .u32 (Sh.nums b (k + 1)) = nums .u32 (Sh.nums b k) ++ [.int .u32 (x : Nat)]) := by
        show _ = _
        rw [Sh.nums_succ, hx, nums_append]; rfl
      have R2 : Hid (∀ W, Rd W a (nums .u8 b) → Rd W (cutAddr a' q 4) (nums .u8 (b.drop (4 * (k + 1))))) := fun W hW => by
        have := (R.out W hW).cut (cap := q) (l := 4) (by rw [nums_length, hpl.out]; exact hpq)
        rw [nums, ← List.map_drop, List.drop_drop] at this
        exact this
      have B2 : Hid (∀ ad, cutAddr a' q 4 = some ad → ∃ ad0, a = some ad0 ∧ ad0.block = ad.block) := fun ad e => by
        obtain ⟨ad1, e', e2⟩ := cut_block e
        obtain ⟨ad0, e0, e3⟩ := B.out ad1 e'
        exact ⟨ad0, e0, e3.trans e2⟩
      have Hlk : Hid ((nums .u32 (Sh.nums b k)).length = k) := by show _ = _; rw [nums_length, Sh.nums_length]
      have Hkm : Hid ((k : Int) ≤ 1000000000000) := by show _ ≤ _; have := Hmax.out; have := Hnc.out; have := Hc4.out; omega
      clear hx
      go_wp2_with fail
      refine C.out.mono ?_
      rintro e w1 ⟨rfl, t1⟩
      have T1 := Lib.hid (T.out.trans t1)
      have O1 : Hid (Own w1.drew w.heap.size 38 (.slice al k cl) (nums .u32 (Sh.nums b k))) := (O.out.touch t1 (fun _ _ _ f => f)).touch (Touch.refl No w1).drew (fun _ _ _ f => f)
      have O2 : Hid (∀ ob, Own (w1.drew.alloc ob) w.heap.size 38 (.slice al k cl) (nums .u32 (Sh.nums b k))) := fun ob => O1.out.touch ((Touch.refl No w1.drew).alloc ob) (fun _ _ _ f => f)
      have Td : Hid (Touch No w w1.drew) := T1.out.drew
      clear t1 O C
      go_wp2_with fail
      go_region_law (refine step_append_rds ?_ _ _ _ rfl w.heap.size 38 I (.int .u32 0) 4 Tryz.underlying86 HI.out.1 HI.out.2.1 HI.out.2.2.1 HI.out.2.2.2 rfl _ _ (O2.out _) rfl (some ⟨w1.drew.heap.size, 0, none⟩) 1 1 (k + 1) [.int .u32 (x : Nat)] rfl rfl (rd_new1 w1.drew _ _) (by intro u hu; rw [List.mem_singleton] at hu; subst hu; rfl) (by rw [Hlk.out]) (by have := Hkm.out; unfold maxLen; omega) (by have := Hkm.out; omega) (by have := T1.out.size; simp; omega) ?_; rfl; intro a3 c3 w3 o3 t3)
      all_goals
        have O3 : Hid (Own w3 w.heap.size 38 (.slice a3 (k + 1) c3) (nums .u32 (Sh.nums b (k + 1)))) := by show Own _ _ _ _ _; rw [HN.out]; exact o3
        have T3 : Hid (Touch No w w3) := ((Td.out.alloc _).then t3 (fun i hi e => absurd ((O1.out.block e).1) (Nat.not_le.2 hi)))
        clear o3 t3
        go_wp2
        go_roundg g
        case measure => omega
        case rel => exact ⟨k + 1, p - 4, q - 4, _, _, _, by omega, by omega, by omega, rfl, rfl, O3.out, T3.out, R2.out, B2.out⟩

set_option maxRecDepth 100000 in
set_option maxHeartbeats 4000000 in
theorem shNumbers_most (w : World) (a : Option Addr) (n c : Nat) (b : List Nat) (hb : b.length = n) (hnc : n ≤ c) (hmax : (c : Int) ≤ 1000000000000) (hr : Rd w a (nums .u8 b)) (hlt : ∀ x ∈ b, x < 256) (M : Nat) (hM : (M : Int) ≤ 1000000) (gm om : Nat) (hcm : w.cell? ⟨gm, om, none⟩ = some (.int .i64 (M : Nat))) :
    Calls Tryz.prog 160 #[.slice a n c, .slice (some ⟨gm, om, none⟩) 1 1] w (NumbersPost w a n c b (min M (b.length / 4))) := by
  have Hb := Lib.hid hb
  have Hr := Lib.hid hr
  have Hlt := Lib.hid hlt
  have Hnc := Lib.hid hnc
  have Hmax := Lib.hid hmax
  obtain ⟨I, hi0, hi1, hi2, hi3⟩ := u32_info
  obtain ⟨J, hj0, hj1, hj2, hj3⟩ := u8_info
  have HI := Lib.hid (And.intro hi0 (And.intro hi1 (And.intro hi2 hi3)))
  have HJ := Lib.hid (And.intro hj0 hj2)
  obtain ⟨cnt, hcnt⟩ : ∃ cnt, (min M (b.length / 4)) = cnt := ⟨_, rfl⟩
  rw [hcnt]
  have Hcnt := Lib.hid hcnt
  have Hc4 : Hid (4 * cnt ≤ n) := by show _ ≤ _; rw [← hcnt]; rw [hb]; omega
  have HM := Lib.hid hM
  have HCM : Hid (∀ wx, Touch No w wx → wx.cell? ⟨gm, om, none⟩ = some (.int .i64 (M : Nat))) := fun wx t => t.cell id hcm
  clear hcm
  clear hb hr hlt hnc hmax hi0 hi1 hi2 hi3 hj0 hj1 hj2 hj3 hcnt
  go_enter Tryz.func160, Tryz.ntmps160
  go_wp2
  go_loopg [0, 4] cnt (fun g s0 s4 wr => ∃ (k p q : Nat) (a' al : Option Addr) (cl : Nat), k + g = cnt ∧ p + 4 * k = n ∧ q + 4 * k = c ∧ s0 = .slice a' p q ∧ s4 = .slice al k cl ∧ Hid (Own wr w.heap.size 38 (.slice al k cl) (nums .u32 (Sh.nums b k))) ∧ Hid (Touch No w wr) ∧ Hid (∀ W, Rd W a (nums .u8 b) → Rd W a' (nums .u8 (b.drop (4 * k)))) ∧ Hid (∀ ad, a' = some ad → ∃ ad0, a = some ad0 ∧ ad0.block = ad.block))
  case atStart => exact ⟨0, n, c, a, none, 0, by omega, by omega, by omega, rfl, rfl, Own.nil _ _ _, Touch.refl _ _, fun W h => h, fun ad e => ⟨_, e, rfl⟩⟩
  case round =>
    obtain ⟨k, p, q, a', al, cl, hkg, hp, hq, rfl, rfl, O, T, R, B⟩ := hrel
    have hpl : Hid ((b.drop (4 * k)).length = p) := by show _ = _; rw [List.length_drop, Hb.out]; omega
    have hpq : p ≤ q := by have := Hnc.out; omega
    have hq12 : (q : Int) ≤ 1000000000000 := by have := Hmax.out; omega
    have hcm := HCM.out _ T.out
    cases gk with
    | zero =>
      obtain rfl : k = cnt := by omega
      have Fin : Hid (∀ wx, Touch No wr wx → NumbersPost w a n c b k (.returned (.tuple #[.slice al k cl, .slice a' p q])) wx) := fun wx t =>
        ⟨al, cl, a', p, q, rfl, hp, hq, O.out.touch t (fun _ _ _ f => f), R.out, B.out, T.out.trans t⟩
      by_cases h4 : 4 ≤ p
      · have h4i : (4 : Int) ≤ (p : Nat) := by omega
        have h4d : decide ((4 : Int) ≤ (p : Nat)) = true := decide_eq_true h4i
        obtain rfl : k = M := by have := Hcnt.out; have := Hb.out; omega
        clear O R B
        go_wp2
        go_ret2
        exact Fin.out _ (Touch.refl No wr)
      · have h4i : ¬ (4 : Int) ≤ (p : Nat) := by omega
        have h4d : decide ((4 : Int) ≤ (p : Nat)) = false := decide_eq_false h4i
        clear O R B
        go_wp2
        go_ret2
        exact Fin.out _ (Touch.refl No wr)
    | succ g =>
      have h4 : 4 ≤ p := by have := Hc4.out; omega
      have h4i : (4 : Int) ≤ (p : Nat) := by omega
      have h4d : decide ((4 : Int) ≤ (p : Nat)) = true := decide_eq_true h4i
      have hkM : (k : Int) < (M : Nat) := by have := Hcnt.out; omega
      obtain ⟨x, hx⟩ : ∃ x, Rt.unfour (b.drop (4 * k)) = x := ⟨_, rfl⟩
      have hcut : ∀ wx : World, (Instr.slice 39 (.slice a' p q) (some (.int .i64 4)) none none).run Tryz.prog wx = .ok (.slice (cutAddr a' q 4) (p - 4) (q - 4)) wx := fun wx => run_cut Tryz.underlying39 HJ.out.1 HJ.out.2 a' p q 4 .i64 h4 wx
      have C := Lib.hid (getFour_ok wr a' p q (b.drop (4 * k)) x hpl.out h4 (by omega) ((R.out w Hr.out).no T.out) (fun y hy => Hlt.out y (List.mem_of_mem_drop hy)) hx)
      have HN : Hid (nums .u32 (Sh.nums b (k + 1)) = nums .u32 (Sh.nums b k) ++ [.int .u32 (x : Nat)]) := by
        show _ = _
        rw [Sh.nums_succ, hx, nums_append]; rfl
      have R2 : Hid (∀ W, Rd W a (nums .u8 b) → Rd W (cutAddr a' q 4) (nums .u8 (b.drop (4 * (k + 1))))) := fun W hW => by
        have := (R.out W hW).cut (cap := q) (l := 4) (by rw [nums_length, hpl.out]; exact hpq)
        rw [nums, ← List.map_drop, List.drop_drop] at this
        exact this
      have B2 : Hid (∀ ad, cutAddr a' q 4 = some ad → ∃ ad0, a = some ad0 ∧ ad0.block = ad.block) := fun ad e => by
        obtain ⟨ad1, e', e2⟩ := cut_block e
        obtain ⟨ad0, e0, e3⟩ := B.out ad1 e'
        exact ⟨ad0, e0, e3.trans e2⟩
      have Hlk : Hid ((nums .u32 (Sh.nums b k)).length = k) := by show _ = _; rw [nums_length, Sh.nums_length]
      have Hkm : Hid ((k : Int) ≤ 1000000000000) := by show _ ≤ _; have := Hmax.out; have := Hnc.out; have := Hc4.out; omega
      clear hx
      go_wp2_with fail
      refine C.out.mono ?_
      rintro e w1 ⟨rfl, t1⟩
      have T1 := Lib.hid (T.out.trans t1)
      have O1 : Hid (Own w1.drew w.heap.size 38 (.slice al k cl) (nums .u32 (Sh.nums b k))) := (O.out.touch t1 (fun _ _ _ f => f)).touch (Touch.refl No w1).drew (fun _ _ _ f => f)
      have O2 : Hid (∀ ob, Own (w1.drew.alloc ob) w.heap.size 38 (.slice al k cl) (nums .u32 (Sh.nums b k))) := fun ob => O1.out.touch ((Touch.refl No w1.drew).alloc ob) (fun _ _ _ f => f)
      have Td : Hid (Touch No w w1.drew) := T1.out.drew
      clear t1 O C
      go_wp2_with fail
      go_region_law (refine step_append_rds ?_ _ _ _ rfl w.heap.size 38 I (.int .u32 0) 4 Tryz.underlying86 HI.out.1 HI.out.2.1 HI.out.2.2.1 HI.out.2.2.2 rfl _ _ (O2.out _) rfl (some ⟨w1.drew.heap.size, 0, none⟩) 1 1 (k + 1) [.int .u32 (x : Nat)] rfl rfl (rd_new1 w1.drew _ _) (by intro u hu; rw [List.mem_singleton] at hu; subst hu; rfl) (by rw [Hlk.out]) (by have := Hkm.out; unfold maxLen; omega) (by have := Hkm.out; omega) (by have := T1.out.size; simp; omega) ?_; rfl; intro a3 c3 w3 o3 t3)
      all_goals
        have O3 : Hid (Own w3 w.heap.size 38 (.slice a3 (k + 1) c3) (nums .u32 (Sh.nums b (k + 1)))) := by show Own _ _ _ _ _; rw [HN.out]; exact o3
        have T3 : Hid (Touch No w w3) := ((Td.out.alloc _).then t3 (fun i hi e => absurd ((O1.out.block e).1) (Nat.not_le.2 hi)))
        clear o3 t3
        go_wp2
        go_roundg g
        case measure => omega
        case rel => exact ⟨k + 1, p - 4, q - 4, _, _, _, by omega, by omega, by omega, rfl, rfl, O3.out, T3.out, R2.out, B2.out⟩
end Go.Proofs.YtnffigfafalocaaGreatDoor
namespace Go.Proofs.YtnffigfafalocaaGreatDoor
open Go Go.RowKit Go.Maps
set_option linter.unusedSimpArgs false
set_option linter.unusedVariables false

section
variable {w w' : World} {s : Nat} {d f : Option Addr} {m : Sm} {nb : Option Nat} {bk : Nat} {ta : Option Addr} {tc : Nat} {L : Nat → Prop}
/-- a cell of the struct -/
theorem StoIn.cell (h : StoIn w s d f m nb bk ta tc L) (o : Nat) (v : Value) {d' f' : Option Addr} {m' : Sm} {ta' : Option Addr} {tc' : Nat}
    (hr : [Value.pointer d, .int .u32 (m.epoch : Nat), .map nb, .map (some bk), .slice ta m.table.length tc, .pointer f].set o v = [.pointer d', .int .u32 (m'.epoch : Nat), .map nb, .map (some bk), .slice ta' m'.table.length tc', .pointer f'])
    (h1 : m'.now = m.now) (h2 : m'.puts = m.puts) (h3 : m'.kept = m.kept) (ht : ListAt w L ta' tc' m'.table) : StoIn (w.setCell ⟨s, o, none⟩ v) s d' f' m' nb bk ta' tc' L ∧ Touch (One s) w (w.setCell ⟨s, o, none⟩ v) := by
  have t : Touch (One s) w (w.setCell ⟨s, o, none⟩ v) := (Touch.refl (One s) w).setCell (p := ⟨s, o, none⟩) (fun _ => rfl) _
  have hL : ∀ k, L k → ¬ One s k := fun k hk e => h.ls (by rw [← show k = s from e]; exact hk)
  have hrow := h.row.setCell o v
  rw [hr] at hrow
  refine ⟨⟨hrow, fun b e => ⟨?_, (h.now b e).2⟩, ?_, ht.touch t hL (fun _ h => h), h.ls, h.lk, h.sk, fun k hk => Nat.lt_of_lt_of_le (h.llt k hk) t.size⟩, t⟩
  · rw [h1, h2]; exact (h.now b e).1.touch t (h.now b e).2.2.1 hL (fun _ h => h)
  · rw [h3]; exact h.kept.touch t (fun e => h.sk (show bk = s from e).symm) hL (fun _ h => h)
theorem StoIn.setEpoch (h : StoIn w s d f m nb bk ta tc L) (e : Nat) : StoIn (w.setCell ⟨s, 1, none⟩ (.int .u32 (e : Nat))) s d f ⟨e, m.now, m.puts, m.kept, m.table⟩ nb bk ta tc L ∧ Touch (One s) w (w.setCell ⟨s, 1, none⟩ (.int .u32 (e : Nat))) :=
  h.cell 1 _ rfl rfl rfl rfl h.tab
theorem StoIn.setTable (h : StoIn w s d f m nb bk ta tc L) (a : Option Addr) (n c : Nat) (l : List Nat) (hn : l.length = n) (hl : ListAt w L a c l) : StoIn (w.setCell ⟨s, 4, none⟩ (.slice a n c)) s d f ⟨m.epoch, m.now, m.puts, m.kept, l⟩ nb bk a c L ∧ Touch (One s) w (w.setCell ⟨s, 4, none⟩ (.slice a n c)) := by
  subst hn; exact h.cell 4 _ rfl rfl rfl rfl hl
theorem StoIn.setFree (h : StoIn w s d f m nb bk ta tc L) (f' : Option Addr) : StoIn (w.setCell ⟨s, 5, none⟩ (.pointer f')) s d f' m nb bk ta tc L ∧ Touch (One s) w (w.setCell ⟨s, 5, none⟩ (.pointer f')) :=
  h.cell 5 _ rfl rfl rfl rfl h.tab
/-- another map of what there is now -/
theorem StoIn.setNow (h : StoIn w s d f m nb bk ta tc L) (b n : Nat) (its : List (Nat × Sh.Th)) (hm : MapAtT w L b n its) (hL : ¬ L b) (hs : b ≠ s) (hk : b ≠ bk) : StoIn (w.setCell ⟨s, 2, none⟩ (.map (some b))) s d f ⟨m.epoch, its, n, m.kept, m.table⟩ (some b) bk ta tc L ∧ Touch (One s) w (w.setCell ⟨s, 2, none⟩ (.map (some b))) := by
  have t : Touch (One s) w (w.setCell ⟨s, 2, none⟩ (.map (some b))) := (Touch.refl (One s) w).setCell (p := ⟨s, 2, none⟩) (fun _ => rfl) _
  have hL' : ∀ k, L k → ¬ One s k := fun k hk e => h.ls (by rw [← show k = s from e]; exact hk)
  refine ⟨⟨h.row.setCell 2 _, fun b' e => ?_, h.kept.touch t (fun e => h.sk (show bk = s from e).symm) hL' (fun _ h => h), h.tab.touch t hL' (fun _ h => h), h.ls, h.lk, h.sk, fun k hk => Nat.lt_of_lt_of_le (h.llt k hk) t.size⟩, t⟩
  obtain rfl : b = b' := by simpa using e
  exact ⟨hm.touch t hs hL' (fun _ h => h), hL, hs, hk⟩
/-- the map of what there is now, written -/
theorem StoIn.mapNow {b : Nat} (h : StoIn w s d f m (some b) bk ta tc L) {n : Nat} {D : DataW Value} {its : List (Nat × Sh.Th)} {p : Nat} (hg : w.grownBy w' (some b)) (hn : n ≤ p) (hD : w'.ownsMap Tryz.prog 38 asHeld b n D) (hM : MapT w L D its) : StoIn w' s d f ⟨m.epoch, its, p, m.kept, m.table⟩ (some b) bk ta tc L ∧ Touch (One b) w w' := by
  have t : Touch (One b) w w' := (Touch.refl (One b) w).grown hg (fun k e _ => (Option.some.inj e).symm)
  obtain ⟨h1, h2, h3, h4⟩ := h.now b rfl
  have hL' : ∀ k, L k → ¬ One b k := fun k hk e => h2 (by rw [← show k = b from e]; exact hk)
  refine ⟨⟨h.row.touch t (fun e => h3 (show s = b from e).symm), fun b' e => ?_, h.kept.touch t (fun e => h4 (show bk = b from e).symm) hL' (fun _ h => h), h.tab.touch t hL' (fun _ h => h), h.ls, h.lk, h.sk, fun k hk => Nat.lt_of_lt_of_le (h.llt k hk) t.size⟩, t⟩
  obtain rfl : b = b' := by simpa using e
  exact ⟨⟨n, D, hn, hD, hM.touch t hL' (fun _ h => h)⟩, h2, h3, h4⟩
theorem StoIn.mapKept (h : StoIn w s d f m nb bk ta tc L) {n : Nat} {D : DataW Value} {its : List (Nat × Sh.Th)} (hg : w.grownBy w' (some bk)) (hn : n ≤ 5000) (hD : w'.ownsMap Tryz.prog 38 asHeld bk n D) (hM : MapT w L D its) : StoIn w' s d f ⟨m.epoch, m.now, m.puts, its, m.table⟩ nb bk ta tc L ∧ Touch (One bk) w w' := by
  have t : Touch (One bk) w w' := (Touch.refl (One bk) w).grown hg (fun k e _ => (Option.some.inj e).symm)
  have hL' : ∀ k, L k → ¬ One bk k := fun k hk e => h.lk (by rw [← show k = bk from e]; exact hk)
  exact ⟨⟨h.row.touch t (fun e => h.sk (show s = bk from e)), fun b e => ⟨(h.now b e).1.touch t (h.now b e).2.2.2 hL' (fun _ h => h), (h.now b e).2⟩, ⟨n, D, hn, hD, hM.touch t hL' (fun _ h => h)⟩, h.tab.touch t hL' (fun _ h => h), h.ls, h.lk, h.sk, fun k hk => Nat.lt_of_lt_of_le (h.llt k hk) t.size⟩, t⟩
/-- more blocks for lists -/
theorem StoIn.more (h : StoIn w s d f m nb bk ta tc L) {L' : Nat → Prop} (hL : ∀ k, L k → L' k) (hn : ∀ k, L' k → ¬ L k → k ≠ s ∧ k ≠ bk ∧ nb ≠ some k ∧ k < w.heap.size) : StoIn w s d f m nb bk ta tc L' := by
  have key : ∀ k, ¬ L k → k = s ∨ k = bk ∨ nb = some k → ¬ L' k := fun k hk hc hl => by
    obtain ⟨h1, h2, h3, _⟩ := hn k hl hk
    rcases hc with e | e | e
    · exact h1 e
    · exact h2 e
    · exact h3 e
  refine ⟨h.row, fun b e => ⟨(h.now b e).1.touch (Touch.refl No w) (fun f => f) (fun _ _ f => f) hL, key b (h.now b e).2.1 (Or.inr (Or.inr e)), (h.now b e).2.2⟩, h.kept.touch (Touch.refl No w) (fun f => f) (fun _ _ f => f) hL, h.tab.touch (Touch.refl No w) (fun _ _ f => f) hL, key s h.ls (Or.inl rfl), key bk h.lk (Or.inr (Or.inl rfl)), h.sk, fun k hk => ?_⟩
  by_cases hl : L k
  · exact h.llt k hl
  · exact (hn k hk hl).2.2.2
end
section
variable {w0 w w' : World} {s d : Nat} {D : Dk.Disk} {dd ff : Option Addr} {u : Bool} {m : Sm} {X : List (Option Addr × Nat × List Nat)} {E : List Part}
/-- a store taken up, turned and laid down again -/
theorem Dd.stoX (h : Dd w0 w d D (Part.stoX s dd ff u m X :: E)) : ∃ nb bk ta tc L, StoIn w s dd ff m nb bk ta tc L ∧ nb.isSome = u ∧ (∀ x ∈ X, ListAt w L x.1 x.2.1 x.2.2) ∧ (∀ k, stoO s nb bk L k → w0.heap.size ≤ k ∧ k < w.heap.size) ∧ (∀ q ∈ Part.disk d D :: E, ∃ C, q.P w C ∧ ∀ k, stoO s nb bk L k → ¬ C k) ∧
    ∀ w' dd' ff' u' m' X' nb' bk' ta' tc' L', StoIn w' s dd' ff' m' nb' bk' ta' tc' L' → nb'.isSome = u' → (∀ x ∈ X', ListAt w' L' x.1 x.2.1 x.2.2) → Touch (stoO s nb bk L) w w' → (∀ k, stoO s nb' bk' L' k → stoO s nb bk L k ∨ w.heap.size ≤ k) → Dd w0 w' d D (Part.stoX s dd' ff' u' m' X' :: E) := by
  obtain ⟨A, ⟨nb, bk, ta, tc, L, h1, h2, hx, h3⟩, hA, hq, hf⟩ := h.with
  refine ⟨nb, bk, ta, tc, L, h1, h2, hx, fun k hk => hA k ((h3 k).2 hk), fun q hq' => ?_, fun w' dd' ff' u' m' X' nb' bk' ta' tc' L' h1' h2' hx' t hin => ?_⟩
  · obtain ⟨C, hC, hd⟩ := hq q hq'
    exact ⟨C, hC, fun k hk => hd k ((h3 k).2 hk)⟩
  · exact hf w' [_] ⟨t.mono (fun k _ hk => (h3 k).2 hk), stoO s nb' bk' L', ⟨stoO s nb' bk' L', fun _ => False, ⟨nb', bk', ta', tc', L', h1', h2', hx', fun k => Iff.rfl⟩, trivial, fun _ _ f => f, fun _ h => h, fun _ f => f.elim⟩, fun k hk => (hin k hk).imp (fun h => (h3 k).2 h) id⟩
/-- two parts beside each other, as one -/
theorem Sl.merge {p q r : Part} {l : List Part} (h : Sl w0 w (p :: q :: l)) (hm : ∀ A B, p.P w A → q.P w B → (∀ k, A k → ¬ B k) → r.P w (fun k => A k ∨ B k)) : Sl w0 w (r :: l) := by
  obtain ⟨O, ⟨A, B, ha, ⟨C, G, hc, hg, hd2, h3, h4⟩, hd, h1, h2⟩, hO, t⟩ := h
  exact ⟨O, ⟨fun k => A k ∨ C k, G, hm A C ha hc (fun k hk hc' => hd k hk (h3 k hc')), hg, fun k hk hG => by
    rcases hk with hk | hk
    · exact hd k hk (h4 k hG)
    · exact hd2 k hk hG, fun k hk => by
    rcases hk with hk | hk
    · exact h1 k hk
    · exact h2 k (h3 k hk), fun k hk => h2 k (h4 k hk)⟩, hO, t⟩
/-- a list comes into its blocks -/
theorem Dd.stoList {a : Option Addr} {n c : Nat} {l : List Nat} (h : Dd w0 w d D (Part.stoX s dd ff u m X :: Part.sl 38 a n c (nums .u32 l) :: E)) : Dd w0 w d D (Part.stoX s dd ff u m ((a, c, l) :: X) :: E) := by
  have h1 : Sl w0 w (Part.stoX s dd ff u m X :: Part.sl 38 a n c (nums .u32 l) :: Part.disk d D :: E) := Sl.perm h ((List.Perm.swap _ _ _).trans ((List.Perm.swap _ _ _).cons _))
  refine Sl.perm (Sl.merge h1 (r := Part.stoX s dd ff u m ((a, c, l) :: X)) ?_) (List.Perm.swap _ _ _)
  rintro A B ⟨nb, bk, ta, tc, L, h1, h2, hx, h3⟩ hs hd
  have hl := sl_len hs
  have hr := sl_rd hs
  have hlt := (Part.sl 38 a n c (nums .u32 l)).lt hs
  obtain ⟨e1, e2, e3, e4, e5⟩ := hs
  rw [nums_length] at hl
  have hB : ∀ k, B k → k ≠ s ∧ k ≠ bk ∧ nb ≠ some k ∧ k < w.heap.size := fun k hk =>
    ⟨fun e => hd k ((h3 k).2 (Or.inl e)) hk, fun e => hd k ((h3 k).2 (Or.inr (Or.inr (Or.inl e)))) hk, fun e => hd k ((h3 k).2 (Or.inr (Or.inl e))) hk, hlt k hk⟩
  have hLa : ListAt w (fun k => L k ∨ B k) a c l := ⟨by have := hl.1; have := hl.2.1; omega, hl.2.2, hr, fun g' o' e h0 => by
    rcases e5 with e5 | ⟨g, o, cs, ha, hg, hcs, hO, hv⟩
    · exact absurd (List.eq_nil_of_length_eq_zero (by have := hl.1; have := hl.2.1; omega)) h0
    · rw [ha] at e; cases e; exact Or.inr hO⟩
  refine ⟨nb, bk, ta, tc, fun k => L k ∨ B k, h1.more (fun k => Or.inl) (fun k hk hn => hB k (hk.resolve_left hn)), h2, fun x hX => ?_, fun k => ?_⟩
  · rcases List.mem_cons.1 hX with rfl | hX
    · exact hLa
    · exact (hx x hX).touch (Touch.refl No w) (fun _ _ f => f) (fun k => Or.inl)
  · show A k ∨ B k ↔ stoO s nb bk (fun k => L k ∨ B k) k
    rw [h3]
    unfold stoO
    constructor
    · rintro ((e | e | e | e) | e)
      · exact Or.inl e
      · exact Or.inr (Or.inl e)
      · exact Or.inr (Or.inr (Or.inl e))
      · exact Or.inr (Or.inr (Or.inr (Or.inl e)))
      · exact Or.inr (Or.inr (Or.inr (Or.inr e)))
    · rintro (e | e | e | (e | e))
      · exact Or.inl (Or.inl e)
      · exact Or.inl (Or.inr (Or.inl e))
      · exact Or.inl (Or.inr (Or.inr (Or.inl e)))
      · exact Or.inl (Or.inr (Or.inr (Or.inr e)))
      · exact Or.inr e
end
end Go.Proofs.YtnffigfafalocaaGreatDoor
