/-
  Package pages by its own text: Read.
  Bytes as a text.
-/
import Derived.Test.YtnffigfafalocaaGreatDoorK15
import Derived.Test.YtnffigfafalocaaGreatDoorK08
import Derived.Lib.SlBytesConst
namespace Go.Proofs.YtnffigfafalocaaGreatDoor
open Go Go.RowKit Go.Shelf
set_option linter.unusedSimpArgs false
attribute [local go_sem] Oper.semAt_some

def PgReadPost (w : World) (D : Dk.Disk) (num : Nat) (e : Ending) (w' : World) : Prop :=
  ∃ a n, e = .returned (.tuple #[.int .u32 (Pg.rN D num : Nat), .slice a n n, .int .i64 (Pg.rE D num : Nat)]) ∧ (Pg.rB D num).length = n ∧ (∃ c, Own w' w.heap.size 5 (.slice a n c) (nums .u8 (Pg.rB D num))) ∧ Touch No w w'

/-- sectors of a page, read in some order -/
def Pg.rds (D : Dk.Disk) (num : Nat) (l : List (Fin 4)) : List Nat := l.flatMap fun x => Dk.bytesOf (Dk.at_ D.seen (4 * num + x.val))
theorem Pg.rds_all (D : Dk.Disk) (num : Nat) : Pg.rds D num (four4 4) = Pg.rd D num 4 := by
  simp [Pg.rds, Pg.rd, four4, List.finRange]
  rfl
theorem Pg.rds_snoc (D : Dk.Disk) (num : Nat) (l : List (Fin 4)) (x : Fin 4) : Pg.rds D num (l ++ [x]) = Pg.rds D num l ++ Dk.bytesOf (Dk.at_ D.seen (4 * num + x.val)) := by simp [Pg.rds]
theorem Pg.lost_yes {D : Dk.Disk} {num : Nat} (x : Fin 4) (h : (Dk.at_ D.seen (4 * num + x.val)).bad = 1) : Pg.lost D num 4 = true := by
  simp only [Pg.lost]
  match x, h with
  | ⟨0, _⟩, h => simp at h; simp [h]
  | ⟨1, _⟩, h => simp at h; simp [h]
  | ⟨2, _⟩, h => simp at h; simp [h]
  | ⟨3, _⟩, h => simp at h; simp [h]
theorem Pg.lost_no {D : Dk.Disk} {num : Nat} (h : ∀ x : Fin 4, (Dk.at_ D.seen (4 * num + x.val)).bad ≠ 1) : Pg.lost D num 4 = false := by
  have h0 := h 0
  have h1 := h 1
  have h2 := h 2
  have h3 := h 3
  simp at h0 h1 h2 h3
  simp [Pg.lost, h0, h1, h2]
  exact h3

structure RdIn (W w : World) (B0 B8 d : Nat) (vs : List Nat) : Prop where
  t : Touch No w W
  cd : W.cell? ⟨B0, 0, none⟩ = some (dskV (some ⟨d, 0, none⟩))
  r : ∀ k, k < 3 → (∃ v, W.cell? ⟨B0 + 1 + k, 0, none⟩ = some v) ∧ W.frozen? ⟨B0 + 1 + k, 0, none⟩ = false
  all : ∃ v, W.cell? ⟨B8, 0, none⟩ = some v ∧ W.frozen? ⟨B8, 0, none⟩ = false ∧ Own W (B8 + 2) 5 v (nums .u8 vs)
  sz : B8 + 2 ≤ W.heap.size
theorem RdIn.touch {F : Nat → Prop} {W W' w : World} {B0 B8 d : Nat} {vs : List Nat} (h : RdIn W w B0 B8 d vs) (t : Touch F W W') (h1 : ∀ k, CellsAt W k → ¬ F k) (h2 : ∀ k, k < w.heap.size → ¬ F k) : RdIn W' w B0 B8 d vs := by
  obtain ⟨ht, cd, r, ⟨v, c8, f8, o⟩, sz⟩ := h
  refine ⟨ht.then t (fun i hi f => absurd f (h2 i hi)), t.cell (h1 _ (cellsAt_of cd)) cd, fun k hk => ?_, ⟨v, t.cell (h1 _ (cellsAt_of c8)) c8, (t.frozen (lt_of_cell c8) (h1 _ (cellsAt_of c8)) 0).trans f8, ?_⟩, Nat.le_trans sz t.size⟩
  · obtain ⟨⟨x, hx⟩, hf⟩ := r k hk
    exact ⟨⟨x, t.cell (h1 _ (cellsAt_of hx)) hx⟩, (t.frozen (lt_of_cell hx) (h1 _ (cellsAt_of hx)) 0).trans hf⟩
  · obtain ⟨hl, hh⟩ := o
    refine ⟨hl, ?_⟩
    rcases hh with hh | ⟨g, cap, cur, hv, hg, hgt, q⟩
    · exact Or.inl hh
    · exact Or.inr ⟨g, cap, cur, hv, hg, by rw [t.block g (Array.getElem?_eq_some_iff.1 hgt).1 (h1 g ⟨_, _, _, hgt⟩)]; exact hgt, q⟩
theorem RdIn.no {W W' w : World} {B0 B8 d : Nat} {vs : List Nat} (h : RdIn W w B0 B8 d vs) (t : Touch No W W') : RdIn W' w B0 B8 d vs := h.touch t (fun _ _ f => f) (fun _ _ f => f)

set_option maxRecDepth 100000 in
set_option maxHeartbeats 4000000 in
theorem pgRead_yes (w : World) (d : Nat) (D : Dk.Disk) (O : Nat → Prop) (num : Nat) (hnum : num < 4294967296) (h : DiskAt w d D O) (ho : onD D num = 0) :
    CallsIn Fence.wide 6 Tryz.prog 159 #[dskV (some ⟨d, 0, none⟩), .int .u32 (num : Nat)] w (PgReadPost w D num) := by
  have hlen : Hid (4 * num + 4 ≤ D.seen.length) := by
    show _ ≤ _
    unfold onD at ho
    split at ho
    · assumption
    · cases ho
  refine callsIn_of_wp_marks Tryz.func159 rfl trivial ?_ rfl
  simp only [Tryz.ntmps159, List.size_toArray, List.length_cons, List.length_nil, Nat.reduceAdd, Nat.reduceSub, Array.replicate_succ, Array.replicate_zero, List.push_toArray, List.append_toArray, List.nil_append, List.cons_append]
  gi_wp2
  refine ⟨trivial, (callsIn_wide.2 (pgAsk_any (h.no ((((Touch.refl No w).alloc _).alloc _).alloc _ |>.alloc _)) num hnum)).mono ?_⟩
  rw [ho]
  rintro e w1 ⟨rfl, t1⟩
  gi_wp2
  refine ⟨trivial, (callsIn_wide.2 (each_any _ num)).mono ?_⟩
  rintro e w3 ⟨rfl, h3⟩
  have hs1 := t1.size
  simp only [size_alloc] at hs1
  have tw1 : Touch No w w1 := ((((Touch.refl No w).alloc _).alloc _).alloc _ |>.alloc _).trans t1
  have t13 : Touch No w1 w3 := by rw [← h3]; exact ((Touch.refl No w1).alloc _).alloc _
  have t3 : Touch No w w3 := tw1.trans t13
  have hs3 : w3.heap.size = w1.heap.size + 2 := by rw [← h3]; simp
  have hRd : RdIn w3 w w.heap.size w1.heap.size d [] := by
    have tt := t1.trans t13
    have R0 := ((Row.new w 193 #[dskV (some ⟨d, 0, none⟩)]).touch (F := No) ((((Touch.refl No _).alloc (.cells #[.int .u32 0] 38)).alloc (.cells #[.slice none 0 0] 39)).alloc (.cells #[.int .i64 0] 33)) id).touch tt id
    have R1 := ((Row.new (w.alloc (.cells #[dskV (some ⟨d, 0, none⟩)] 193)) 38 #[.int .u32 0]).touch (F := No) (((Touch.refl No _).alloc (.cells #[.slice none 0 0] 39)).alloc (.cells #[.int .i64 0] 33)) id).touch tt id
    have R2 := ((Row.new ((w.alloc (.cells #[dskV (some ⟨d, 0, none⟩)] 193)).alloc (.cells #[.int .u32 0] 38)) 39 #[.slice none 0 0]).touch (F := No) ((Touch.refl No _).alloc (.cells #[.int .i64 0] 33)) id).touch tt id
    have R3 := (Row.new (((w.alloc (.cells #[dskV (some ⟨d, 0, none⟩)] 193)).alloc (.cells #[.int .u32 0] 38)).alloc (.cells #[.slice none 0 0] 39)) 33 #[.int .i64 0]).touch tt id
    simp only [size_alloc] at R1 R2 R3
    refine ⟨t3, R0.cell 0, fun k hk => ?_, ⟨.slice none 0 0, ?_, ?_, Own.nil _ _ _⟩, by omega⟩
    · match k, hk with
      | 0, _ => exact ⟨⟨_, R1.cell 0⟩, R1.soft 0⟩
      | 1, _ => exact ⟨⟨_, R2.cell 0⟩, R2.soft 0⟩
      | 2, _ => exact ⟨⟨_, R3.cell 0⟩, R3.soft 0⟩
    · rw [← h3, cell_old _ _ (by simp), cell_new]; rfl
    · rw [← h3, frozen_old _ _ (by simp)]; exact frozen_new _ _ _ 0
  have hk3 : w3.cell? ⟨w1.heap.size + 1, 0, none⟩ = some (.int .u32 (num : Nat)) := by
    rw [← h3]
    have := cell_new (w1.alloc (.cells #[.slice none 0 0] 39)) #[.int .u32 (num : Nat)] 38 (0, 0) 0
    rw [size_alloc] at this; exact this
  simp only [size_alloc]
  gi_wp2
  obtain ⟨B0, hB0⟩ : ∃ B0, B0 = w.heap.size := ⟨_, rfl⟩
  obtain ⟨B8, hB8⟩ : ∃ B8, B8 = w1.heap.size := ⟨_, rfl⟩
  rw [← hB0, ← hB8] at hRd
  rw [← hB8] at hk3
  rw [← hB0, ← hB8]
  have HK3 := Lib.hid hk3
  have HRd := Lib.hid hRd
  have HD := Lib.hid h
  have HB0 := Lib.hid hB0
  have HB8 := Lib.hid hB8
  have Hs : Hid (B0 + 4 ≤ B8) := by show _ ≤ _; omega
  have hn9 : (num : Int) ≤ 4294967295 := by omega
  have h3s : w3.heap.size = B8 + 2 := by rw [hs3, hB8]
  have hw3 : w.heap.size ≤ B8 := by omega
  have Hw3 := Lib.hid hw3
  obtain ⟨I, hi0, hi1, hi2, hi3⟩ := u8_info
  have HI := Lib.hid (And.intro hi0 (And.intro hi1 (And.intro hi2 hi3)))
  have Hnum := Lib.hid hnum
  have Ho := Lib.hid ho
  clear hk3 hRd hs3 hB0 hB8 h3 hs1 t13 t3 t1 tw1 h ho hi0 hi1 hi2 hi3 hnum hw3
  refine wpIn_rangeFunc_ownG rfl (by decide) (gf := 216) (lb := #[.pointer (some ⟨B8 + 1, 0, none⟩)]) rfl trivial (enters_of Tryz.func216 (by kernel_rfl) rfl)
    (each_stops 5 (by decide) (B8 + 1) num Hnum.out w3 (by omega) HK3.out) keepB_t (keepB_b (by omega)) (Below.refl _ _) (fun _ => rfl)
    (fun pre W => RdIn W w B0 B8 d (Pg.rds D num pre) ∧ pre.length ≤ 4 ∧ ∀ x ∈ pre, (Dk.at_ D.seen (4 * num + x.val)).bad ≠ 1)
    (fun c _ W => c = .ret ∧ Pg.lost D num 4 = true ∧ Touch No w W ∧ W.cell? ⟨B0 + 1, 0, none⟩ = some (.int .u32 0) ∧ W.cell? ⟨B0 + 1 + 1, 0, none⟩ = some (.slice none 0 0) ∧ W.cell? ⟨B0 + 1 + 1 + 1, 0, none⟩ = some (.int .i64 12))
    ?own ?ownx
    ⟨HRd.out, Nat.zero_le _, fun x hx => by cases hx⟩
    (fun x => { tmps := #[dskV (some ⟨d, 0, none⟩), .int .u32 (num : Nat), .pointer (some ⟨B0, 0, none⟩), undef, .pointer (some ⟨B0 + 1, 0, none⟩), .pointer (some ⟨B0 + 1 + 1, 0, none⟩), .pointer (some ⟨B0 + 1 + 1 + 1, 0, none⟩), .int .i64 0, .pointer (some ⟨B8, 0, none⟩), .int .i64 ((num : Int) * 4 + ((x.val : Nat) : Int)), undef, undef,
          dskV (some ⟨d, 0, none⟩), .int .u32 (num : Nat), .int .i64 0, .int .i64 0, .bool false, undef, .int .u32 (num : Nat), .func (.func 216) #[] #[.pointer (some ⟨B8 + 1, 0, none⟩)],
          .int .i64 ((num : Int) * 4 + ((x.val : Nat) : Int)), .int .i64 (((x.val : Nat) : Int) * 64), undef, undef, undef, undef, undef, undef, undef, undef, undef, undef, undef, undef, undef, undef, undef, undef, undef, undef, undef, undef, undef, undef], defers := [] }) ?assign ?body ?done ?stop
  case own =>
    rintro s W W' row ⟨hs, hl, hn⟩ hg hr
    refine ⟨hs.touch (touch_grown hg) (fun k ⟨cc, tt, fr, e⟩ e2 => ?_) (fun k hk e2 => ?_), hl, hn⟩
    · obtain ⟨_, o, h1, h2⟩ := hr k e2
      rw [e] at h1; cases h1; cases h2
    · have := (hr k e2).1
      have := Hw3.out
      omega
  case ownx =>
    rintro c s W W' row ⟨rfl, hs, ht, c4, c5, c6⟩ hg hr
    have t := touch_grown hg
    have hc : ∀ k, CellsAt W k → ¬ row = some k := fun k ⟨cc, tt, fr, e⟩ e2 => by
      obtain ⟨_, o, h1, h2⟩ := hr k e2
      rw [e] at h1; cases h1; cases h2
    refine ⟨rfl, hs, ht.then t (fun k hk e2 => ?_), t.cell (hc _ (cellsAt_of c4)) c4, t.cell (hc _ (cellsAt_of c5)) c5, t.cell (hc _ (cellsAt_of c6)) c6⟩
    have := (hr k e2).1
    have := Hw3.out
    omega
  case assign =>
    intro l x W K hK
    gi_wp2
    exact hK
  case body =>
    rintro l pre x W ⟨hP, hl, hno⟩ hlt
    obtain ⟨k, hk⟩ : ∃ k, x.val = k := ⟨_, rfl⟩
    have hk4 : k < 4 := by rw [← hk]; exact x.isLt
    have hk9 : (k : Int) ≤ 3 := by omega
    have hcd := hP.cd
    have hn : 4 * num + k < D.seen.length := by have := hlen.out; omega
    obtain ⟨⟨v4, hv4⟩, f4⟩ := hP.r 0 (by decide)
    obtain ⟨⟨v5, hv5⟩, f5⟩ := hP.r 1 (by decide)
    obtain ⟨⟨v6, hv6⟩, f6⟩ := hP.r 2 (by decide)
    have hm := methRead
    have hWD : DiskAt W d D O := HD.out.no hP.t
    rw [hk]
    by_cases hb : (Dk.at_ D.seen (4 * num + k)).bad = 1
    · have hlost : Hid (Pg.lost D num 4 = true) := Pg.lost_yes x (by rw [hk]; exact hb)
      have HC := read_lost W d D O (4 * num + k) hWD hn hb
      rw [show ((4 * num + k : Nat) : Int) = (num : Int) * 4 + (k : Int) by omega] at HC
      have HC := Lib.hid HC
      have hP' := Lib.hid hP
      clear hb hWD hn hno hl hP hk hlt
      gi_wp2
      refine ⟨trivial, (CallsIn.inRound l (callsIn_wide.2 HC.out)).mono ?_⟩
      rintro e w' ⟨rfl, rfl⟩
      clear HC hm
      gi_wp2
      have n1 : B0 + 1 ≠ B0 + 1 + 1 := by omega
      have n2 : B0 + 1 ≠ B0 + 1 + 1 + 1 := by omega
      have n3 : B0 + 1 + 1 ≠ B0 + 1 + 1 + 1 := by omega
      refine ⟨(((KeepsOthers.setCell W ⟨B0 + 1, 0, none⟩ _).trans (KeepsOthers.setCell _ ⟨B0 + 1 + 1, 0, none⟩ _)).trans (KeepsOthers.setCell _ ⟨B0 + 1 + 1 + 1, 0, none⟩ _)).from _, rfl, hlost.out, ?_, ?_, ?_, ?_⟩
      · have hb := HB0.out
        exact ((hP'.out.t.setCell (p := ⟨B0 + 1, 0, none⟩) (fun h => absurd h (by show ¬ B0 + 1 < _; omega)) _).setCell (p := ⟨B0 + 1 + 1, 0, none⟩) (fun h => absurd h (by show ¬ B0 + 1 + 1 < _; omega)) _).setCell (p := ⟨B0 + 1 + 1 + 1, 0, none⟩) (fun h => absurd h (by show ¬ B0 + 1 + 1 + 1 < _; omega)) _
      · rw [cell_set_ne (Or.inl (Ne.symm n2)), cell_set_ne (Or.inl (Ne.symm n1))]; exact cell_set hv4
      · rw [cell_set_ne (Or.inl (Ne.symm n3))]; exact cell_set (by rw [cell_set_ne (Or.inl n1)]; exact hv5)
      · exact cell_set (by rw [cell_set_ne (Or.inl n3), cell_set_ne (Or.inl n2)]; exact hv6)
    · have hok := hWD.ok.seen _ (Dk.at_mem hn)
      have hb0 : (Dk.at_ D.seen (4 * num + k)).bad = 0 := by have := hok.bad; omega
      have HC := read_in W d D O (4 * num + k) hWD hn hb0
      rw [show ((4 * num + k : Nat) : Int) = (num : Int) * 4 + (k : Int) by omega] at HC
      have HC := Lib.hid HC
      have h64 := Lib.hid hok.b.len
      have hP' := Lib.hid hP
      have Hno := Lib.hid hno
      have Hl := Lib.hid (show pre.length < 4 from hlt)
      have Hb := Lib.hid hb
      have Hk := Lib.hid hk
      clear hb hb0 hWD hn hno hl hP hk hlt hok v4 hv4 f4 v5 hv5 f5 v6 hv6 f6
      gi_wp2
      refine ⟨trivial, (CallsIn.inRound l (callsIn_wide.2 HC.out)).mono ?_⟩
      rintro e w' ⟨g, rfl, _, hrd, tr⟩
      have hP1 := hP'.out.no tr
      obtain ⟨v, c8, f8, o8⟩ := hP1.all
      have HR := Lib.hid hrd
      have HO := Lib.hid o8
      have HP1 := Lib.hid hP1
      have Htr := Lib.hid tr
      have hvl : Hid ((Pg.rds D num pre).length ≤ 64 * pre.length) := by
        have : ∀ q : List (Fin 4), (Pg.rds D num q).length ≤ 64 * q.length := fun q => by
          induction q with
          | nil => simp [Pg.rds]
          | cons y r ih =>
            simp only [Pg.rds, List.flatMap_cons, List.length_append, List.length_cons] at ih ⊢
            have := Dk.bytes_le (HD.out.ok.seen _ (Dk.at_mem (n := 4 * num + y.val) (by have := hlen.out; have := y.isLt; omega)))
            omega
        exact this pre
      obtain ⟨a8, cc8, rfl, _⟩ := o8.form' (n := (Pg.rds D num pre).length) (nums_length _ _)
      clear HC hm hrd tr hP1 o8 hcd
      gi_wp2_with (refine wpListIn_append_rd rfl _ _ 39 rfl (B8 + 2) 5 I (.int .u8 0) 1 Tryz.underlying39 HI.out.1 HI.out.2.1 HI.out.2.2.1 HI.out.2.2.2 rfl _ (nums .u8 (Pg.rds D num pre)) HO.out rfl (some ⟨g, 0, none⟩) 64 64 (nums .u8 (Dk.at_ D.seen (4 * num + k)).b) rfl (by rw [nums_length]; exact h64.out) HR.out (nums_one _ _) (by rw [nums_length]; have := hvl.out; have := Hl.out; unfold maxLen; omega) (by rw [nums_length]; have := hvl.out; have := Hl.out; omega) HP1.out.sz ?_)
      intro v' w2 o2 t2
      have o2 : Own w2 (B8 + 2) 5 v' (nums .u8 (Pg.rds D num (pre ++ [x]))) := by
        rw [Pg.rds_snoc, Hk.out, Dk.bytesOf, if_neg Hb.out, nums_append]; exact o2
      obtain ⟨a9, c9, rfl, _⟩ := o2.form' (n := (Pg.rds D num (pre ++ [x])).length) (nums_length _ _)
      have nb : ∀ q, q < B8 + 2 → ¬ InBlock (.slice a8 (Pg.rds D num pre).length cc8) q := fun q hq hi => absurd (HO.out.block hi).1 (Nat.not_le.2 hq)
      have k8 := t2.cell (nb B8 (by omega)) c8
      have q8 := (t2.frozen (lt_of_cell c8) (nb B8 (by omega)) 0).trans f8
      have O2 := Lib.hid o2
      have T2 := Lib.hid t2
      clear o2 t2 c8 f8
      gi_wp2
      obtain ⟨W3, hW3⟩ : ∃ W3, W3 = w2.setCell ⟨B8, 0, none⟩ (.slice a9 (Pg.rds D num (pre ++ [x])).length c9) := ⟨_, rfl⟩
      have tb : Touch (One B8) w2 W3 := by rw [hW3]; exact (Touch.refl (One B8) w2).setCell (p := ⟨B8, 0, none⟩) (fun _ => rfl) _
      have hc3 : W3.cell? ⟨B8, 0, none⟩ = some (.slice a9 (Pg.rds D num (pre ++ [x])).length c9) := by rw [hW3]; exact cell_set k8
      have hs8 := Hs.out
      have hw8 := Hw3.out
      have nob : ∀ q, q ≠ B8 → ¬ One B8 q := fun q h e => h e
      rw [← hW3]
      refine ⟨?_, ?_, ⟨?_, ?_, fun q hq => ?_, ⟨_, hc3, ?_, ?_⟩, ?_⟩, ?_, ?_⟩
      · refine KeepsOthers.from (((Htr.out.keeps (fun _ f => f.elim)).trans (T2.out.keeps (fun q hq _ => rowCells HO.out hq))).trans ?_) _
        rw [hW3]; exact KeepsOthers.setCell _ _ _
      · have e1 := Htr.out.block (B8 + 1) (by have := hP'.out.sz; omega) id
        have e2 := T2.out.block (B8 + 1) (by have := HP1.out.sz; omega) (nb _ (by omega))
        have e3 := tb.block (B8 + 1) (by have := T2.out.size; have := HP1.out.sz; omega) (nob _ (by omega))
        exact (e3.trans e2).trans e1
      · exact (HP1.out.t.then T2.out (fun q hq hi => absurd hi (nb q (by omega)))).then tb (fun q hq hi => absurd hi (nob q (by omega)))
      · exact tb.cell (nob _ (by omega)) (T2.out.cell (nb _ (by omega)) HP1.out.cd)
      · obtain ⟨⟨z, hz⟩, hf⟩ := HP1.out.r q hq
        have h1 := T2.out.cell (nb _ (by omega)) hz
        exact ⟨⟨z, tb.cell (nob _ (by omega)) h1⟩, (tb.frozen (lt_of_cell h1) (nob _ (by omega)) 0).trans ((T2.out.frozen (lt_of_cell hz) (nb _ (by omega)) 0).trans hf)⟩
      · rw [hW3, World.frozen?_setCell]; exact q8
      · exact O2.out.touch tb (fun q hq _ e => by have : q = B8 := e; omega)
      · exact Nat.le_trans HP1.out.sz (Nat.le_trans T2.out.size tb.size)
      · have := Hl.out
        rw [List.length_append]; simp only [List.length_cons, List.length_nil]; omega
      · intro y hy
        rcases List.mem_append.1 hy with h | h
        · exact Hno.out y h
        · have : y = x := by simpa using h
          rw [this, Hk.out]; exact Hb.out
  case done =>
    rintro Dq ys W hD rfl ⟨hP, _, hno⟩ hK
    have hlost : Pg.lost D num 4 = false := Pg.lost_no (fun x => hno x (by rw [four4, List.take_of_length_le (by simp)]; exact List.mem_finRange x))
    have hcd := hP.cd
    obtain ⟨⟨v4, hv4⟩, f4⟩ := hP.r 0 (by decide)
    obtain ⟨⟨v5, hv5⟩, f5⟩ := hP.r 1 (by decide)
    obtain ⟨⟨v6, hv6⟩, f6⟩ := hP.r 2 (by decide)
    obtain ⟨v, c8, f8, o8⟩ := hP.all
    have hvl : ∀ q : List (Fin 4), (Pg.rds D num q).length ≤ 64 * q.length := fun q => by
      induction q with
      | nil => simp [Pg.rds]
      | cons y r ih =>
        simp only [Pg.rds, List.flatMap_cons, List.length_append, List.length_cons] at ih ⊢
        have := Dk.bytes_le (HD.out.ok.seen _ (Dk.at_mem (n := 4 * num + y.val) (by have := hlen.out; have := y.isLt; omega)))
        omega
    have h256 := hvl (four4 4)
    rw [Pg.rds_all] at o8 h256
    have hlt : ∀ z ∈ Pg.rd D num 4, z < 256 := by
      rw [← Pg.rds_all]
      intro z hz
      obtain ⟨y, _, hy⟩ := List.mem_flatMap.1 hz
      have hs := HD.out.ok.seen _ (Dk.at_mem (n := 4 * num + y.val) (by have := hlen.out; have := y.isLt; omega))
      unfold Dk.bytesOf at hy
      split at hy
      · cases hy
      · exact hs.b.lt z hy
    obtain ⟨L, hL⟩ : ∃ L, (Pg.rd D num 4).length = L := ⟨_, rfl⟩
    obtain ⟨a8, cc8, rfl, _⟩ := o8.form' (n := L) (by rw [nums_length]; exact hL)
    have hroom := o8.room
    have CG : Hid (Calls Tryz.prog 224 #[.int .u32 (num : Nat), .slice a8 L cc8] W (PgGetPost W num (Pg.rd D num 4))) :=
      pageGet_any W num a8 L cc8 _ hL hroom.1 hroom.2.1 o8.rd hlt
    have hE : Hid (Pg.rE D num = Pg.err num (Pg.rd D num 4)) := by show _ = _; rw [Pg.rE, if_pos Ho.out, hlost]; rfl
    have HP := Lib.hid hP
    have HK := Lib.hid hK
    have HDq := Lib.hid hD
    clear hP hno hlost hvl h256 hlt hL hroom o8 hK hD
    gi_wp2
    refine ⟨trivial, (callsIn_wide.2 CG.out).mono ?_⟩
    rintro e w4 ⟨a4, m4, rfl, hm4, ⟨cg, og⟩, t4⟩
    have q4 := t4.cell (id : No _ → False) hv4
    have q5 := t4.cell (id : No _ → False) hv5
    have q6 := t4.cell (id : No _ → False) hv6
    have g4 := (t4.frozen (lt_of_cell hv4) id 0).trans f4
    have g5 := (t4.frozen (lt_of_cell hv5) id 0).trans f5
    have g6 := (t4.frozen (lt_of_cell hv6) id 0).trans f6
    have OG := Lib.hid og
    have T4 := Lib.hid t4
    have HM4 := Lib.hid hm4
    clear og t4 hm4 hv4 hv5 hv6 f4 f5 f6 CG hcd c8 f8
    gi_wp2
    have n1 : B0 + 1 ≠ B0 + 1 + 1 := by omega
    have n2 : B0 + 1 ≠ B0 + 1 + 1 + 1 := by omega
    have n3 : B0 + 1 + 1 ≠ B0 + 1 + 1 + 1 := by omega
    obtain ⟨W5, hW5⟩ : ∃ W5, W5 = ((w4.setCell ⟨B0 + 1, 0, none⟩ (.int .u32 (Pg.epochOf num (Pg.rd D num 4) : Nat))).setCell ⟨B0 + 1 + 1, 0, none⟩ (.slice a4 m4 m4)).setCell ⟨B0 + 1 + 1 + 1, 0, none⟩ (.int .i64 (Pg.err num (Pg.rd D num 4) : Nat)) := ⟨_, rfl⟩
    have x4 : W5.cell? ⟨B0 + 1, 0, none⟩ = some (.int .u32 (Pg.epochOf num (Pg.rd D num 4) : Nat)) := by
      rw [hW5, cell_set_ne (Or.inl (Ne.symm n2)), cell_set_ne (Or.inl (Ne.symm n1))]; exact cell_set q4
    have x5 : W5.cell? ⟨B0 + 1 + 1, 0, none⟩ = some (.slice a4 m4 m4) := by
      rw [hW5, cell_set_ne (Or.inl (Ne.symm n3))]; exact cell_set (by rw [cell_set_ne (Or.inl n1)]; exact q5)
    have x6 : W5.cell? ⟨B0 + 1 + 1 + 1, 0, none⟩ = some (.int .i64 (Pg.err num (Pg.rd D num 4) : Nat)) := by
      rw [hW5]; exact cell_set (by rw [cell_set_ne (Or.inl n3), cell_set_ne (Or.inl n2)]; exact q6)
    have t45 : Touch (fun k => B0 + 1 ≤ k ∧ k < B0 + 4) w4 W5 := by
      rw [hW5]
      have T := Touch.refl (fun k => B0 + 1 ≤ k ∧ k < B0 + 4) w4
      have T := T.setCell (p := ⟨B0 + 1, 0, none⟩) (fun _ => ⟨Nat.le_refl _, by show B0 + 1 < _; omega⟩) (.int .u32 (Pg.epochOf num (Pg.rd D num 4) : Nat))
      have T := T.setCell (p := ⟨B0 + 1 + 1, 0, none⟩) (fun _ => ⟨Nat.le_succ _, by show B0 + 1 + 1 < _; omega⟩) (.slice a4 m4 m4)
      exact T.setCell (p := ⟨B0 + 1 + 1 + 1, 0, none⟩) (fun _ => ⟨by show _ ≤ B0 + 1 + 1 + 1; omega, by show B0 + 1 + 1 + 1 < _; omega⟩) (.int .i64 (Pg.err num (Pg.rd D num 4) : Nat))
    have h4D : w4.heap[Dq]? = some (.deferred (some [])) := (T4.out.keeps (fun _ f => f.elim)).same Dq _ HK.out rfl
    have k5 : W5.heap[Dq]? = some (.deferred (some [])) := by
      have hlt := (Array.getElem?_eq_some_iff.1 h4D).1
      rw [t45.block Dq hlt (fun f => by have := f.2; have := HDq.out; have := Hs.out; omega)]; exact h4D
    rw [← hW5]
    refine ⟨by simp, .inl ⟨_, _, rfl, run_takeDeferred k5, ?_⟩⟩
    have t6 := touch_grown (grownBy_putObj' W5 Dq (.deferred none))
    have hne : ∀ k, CellsAt W5 k → ¬ (some Dq = some k) := fun k ⟨cc, tt, fr, e⟩ e2 => by
      cases e2
      rw [k5] at e; cases e
    have y4 := t6.cell (hne _ (cellsAt_of x4)) x4
    have y5 := t6.cell (hne _ (cellsAt_of x5)) x5
    have y6 := t6.cell (hne _ (cellsAt_of x6)) x6
    refine ⟨.tuple #[.int .u32 (Pg.epochOf num (Pg.rd D num 4) : Nat), .slice a4 m4 m4, .int .i64 (Pg.err num (Pg.rd D num 4) : Nat)], by simp [results, Tryz.results159, go_sem, y4, y5, y6], ?_⟩
    have eN : Pg.rN D num = Pg.epochOf num (Pg.rd D num 4) := by
      rw [Pg.rN, hE.out]; split
      · rfl
      · rename_i h0; exact (Pg.err_no h0).1.symm
    have eB : Pg.rB D num = Pg.bodyOf num (Pg.rd D num 4) := by
      rw [Pg.rB, hE.out]; split
      · rfl
      · rename_i h0; exact (Pg.err_no h0).2.symm
    have hb0 := HB0.out
    have hs0 := Hs.out
    have hsz := HP.out.sz
    refine ⟨a4, m4, by rw [eN, hE.out], by rw [eB]; exact HM4.out, ⟨cg, ?_⟩, ?_⟩
    · rw [eB]
      have o1 := OG.out.touch t45 (fun b hb _ f => by have := f.2; omega)
      have o2 := o1.touch t6 (fun b hb hbl f => by
        have e2 : Dq = b := Option.some.inj f
        have := (Array.getElem?_eq_some_iff.1 HK.out).1
        omega)
      exact o2.mono (by omega)
    · refine ((HP.out.t.trans T4.out).then t45 (fun i hi f => by have := f.1; omega)).then t6 (fun i hi f => ?_)
      have e2 : Dq = i := Option.some.inj f
      have := HDq.out
      omega
  case stop =>
    rintro Dq c pre W hD _ ⟨rfl, hlost, tW, c4, c5, c6⟩ hK
    have HDq := Lib.hid hD
    clear hD
    gi_wp2
    refine ⟨by simp, .inl ⟨_, _, rfl, run_takeDeferred hK, ?_⟩⟩
    have t6 := touch_grown (grownBy_putObj' W Dq (.deferred none))
    have hne : ∀ k, CellsAt W k → ¬ (some Dq = some k) := fun k ⟨cc, tt, fr, e⟩ e2 => by
      cases e2
      rw [hK] at e; cases e
    have y4 := t6.cell (hne _ (cellsAt_of c4)) c4
    have y5 := t6.cell (hne _ (cellsAt_of c5)) c5
    have y6 := t6.cell (hne _ (cellsAt_of c6)) c6
    have hE : Pg.rE D num = 12 := by rw [Pg.rE, if_pos Ho.out, hlost]; rfl
    refine ⟨.tuple #[.int .u32 0, .slice none 0 0, .int .i64 12], by simp [results, Tryz.results159, go_sem, y4, y5, y6], ?_⟩
    have eN : Pg.rN D num = 0 := by rw [Pg.rN, hE, if_neg (by decide)]
    have eB : Pg.rB D num = [] := by rw [Pg.rB, hE, if_neg (by decide)]
    refine ⟨none, 0, by rw [eN, hE]; rfl, by rw [eB]; rfl, ⟨0, by rw [eB]; exact Own.nil _ _ _⟩, tW.then t6 (fun i hi f => ?_)⟩
    have e2 : Dq = i := Option.some.inj f
    have := HDq.out
    have := Hw3.out
    omega

theorem three_new (w : World) (o : Obj) (T1 T2 T3 : TypeId) (x y z : Value) :
    Row ((((w.alloc o).alloc (.cells #[x] T1)).alloc (.cells #[y] T2)).alloc (.cells #[z] T3)) (w.heap.size + 1) T1 [x] ∧ Row ((((w.alloc o).alloc (.cells #[x] T1)).alloc (.cells #[y] T2)).alloc (.cells #[z] T3)) (w.heap.size + 1 + 1) T2 [y] ∧
    Row ((((w.alloc o).alloc (.cells #[x] T1)).alloc (.cells #[y] T2)).alloc (.cells #[z] T3)) (w.heap.size + 1 + 1 + 1) T3 [z] := by
  have R1 := ((Row.new (w.alloc o) T1 #[x]).touch (F := No) (((Touch.refl No _).alloc (.cells #[y] T2)).alloc (.cells #[z] T3)) id)
  have R2 := ((Row.new ((w.alloc o).alloc (.cells #[x] T1)) T2 #[y]).touch (F := No) ((Touch.refl No _).alloc (.cells #[z] T3)) id)
  have R3 := (Row.new (((w.alloc o).alloc (.cells #[x] T1)).alloc (.cells #[y] T2)) T3 #[z])
  simp only [size_alloc] at R1 R2 R3
  exact ⟨R1, R2, R3⟩
def PgNone (w : World) (r : Nat) (e : Ending) (w' : World) : Prop := e = .returned (.tuple #[.int .u32 0, .slice none 0 0, .int .i64 (r : Nat)]) ∧ Touch No w w'
set_option maxRecDepth 100000 in
set_option maxHeartbeats 4000000 in
theorem pgRead_off (w : World) (v : Value) (num : Nat) (r : Nat) (hr : r ≠ 0) (hask : ∀ wx, Touch No w wx → Calls Tryz.prog 140 #[v, .int .u32 (num : Nat)] wx fun e w' => e = .returned (.int .i64 (r : Nat)) ∧ Touch No wx w') (hv : v = .nilIface ∨ ∃ p, v = dskV p) :
    Calls Tryz.prog 159 #[v, .int .u32 (num : Nat)] w (PgNone w r) := by
  have Hask := Lib.hid hask
  have hr1 : ((r : Int) != 0) = true := by simp; omega
  clear hask hr
  rcases hv with rfl | ⟨p, rfl⟩
  all_goals
    go_enter Tryz.func159, Tryz.ntmps159
    go_wp2_with fail
    obtain ⟨R1, R2, R3⟩ := three_new w _ 38 39 33 (.int .u32 0) (.slice none 0 0) (.int .i64 0)
    refine (Hask.out _ ((((Touch.refl No w).alloc _).alloc _).alloc _ |>.alloc _)).mono ?_
    rintro e w1 ⟨rfl, t1⟩
    have S1 := R1.touch t1 id
    have S2 := R2.touch t1 id
    have S3 := R3.touch t1 id
    have c1 := S1.cell 0
    have c2 := S2.cell 0
    have c3 := S3.cell 0
    have f1 := S1.soft 0
    have f2 := S2.soft 0
    have f3 := S3.soft 0
    have T1 := Lib.hid (((((Touch.refl No w).alloc _).alloc _).alloc _ |>.alloc _).trans t1)
    clear R1 R2 R3 S1 S2 S3 t1
    simp only [List.getElem?_cons_zero] at c1 c2 c3
    go_wp2
    have n1 : w.heap.size + 1 ≠ w.heap.size + 1 + 1 := by omega
    have n2 : w.heap.size + 1 ≠ w.heap.size + 1 + 1 + 1 := by omega
    have n3 : w.heap.size + 1 + 1 ≠ w.heap.size + 1 + 1 + 1 := by omega
    obtain ⟨W5, hW5⟩ : ∃ W5, W5 = ((w1.setCell ⟨w.heap.size + 1, 0, none⟩ (.int .u32 0)).setCell ⟨w.heap.size + 1 + 1, 0, none⟩ (.slice none 0 0)).setCell ⟨w.heap.size + 1 + 1 + 1, 0, none⟩ (.int .i64 (r : Nat)) := ⟨_, rfl⟩
    have x4 : W5.cell? ⟨w.heap.size + 1, 0, none⟩ = some (.int .u32 0) := by
      rw [hW5, cell_set_ne (Or.inl (Ne.symm n2)), cell_set_ne (Or.inl (Ne.symm n1))]; exact cell_set c1
    have x5 : W5.cell? ⟨w.heap.size + 1 + 1, 0, none⟩ = some (.slice none 0 0) := by
      rw [hW5, cell_set_ne (Or.inl (Ne.symm n3))]; exact cell_set (by rw [cell_set_ne (Or.inl n1)]; exact c2)
    have x6 : W5.cell? ⟨w.heap.size + 1 + 1 + 1, 0, none⟩ = some (.int .i64 (r : Nat)) := by
      rw [hW5]; exact cell_set (by rw [cell_set_ne (Or.inl n3), cell_set_ne (Or.inl n2)]; exact c3)
    have T5 : Touch No w W5 := by
      rw [hW5]
      have T := T1.out.setCell (p := ⟨w.heap.size + 1, 0, none⟩) (fun h => absurd h (by show ¬ w.heap.size + 1 < _; omega)) (.int .u32 0)
      have T := T.setCell (p := ⟨w.heap.size + 1 + 1, 0, none⟩) (fun h => absurd h (by show ¬ w.heap.size + 1 + 1 < _; omega)) (.slice none 0 0)
      exact T.setCell (p := ⟨w.heap.size + 1 + 1 + 1, 0, none⟩) (fun h => absurd h (by show ¬ w.heap.size + 1 + 1 + 1 < _; omega)) (.int .i64 (r : Nat))
    rw [← hW5]
    exact bodyPost_ret (v := .tuple #[.int .u32 0, .slice none 0 0, .int .i64 (r : Nat)]) (by simp [results, Tryz.results159, go_sem, x4, x5, x6]) rfl ⟨rfl, T5⟩

theorem pgRead_any (w : World) (d : Nat) (D : Dk.Disk) (O : Nat → Prop) (num : Nat) (hnum : num < 4294967296) (h : DiskAt w d D O) :
    Calls Tryz.prog 159 #[dskV (some ⟨d, 0, none⟩), .int .u32 (num : Nat)] w (PgReadPost w D num) := by
  by_cases ho : onD D num = 0
  · exact callsIn_wide.1 (pgRead_yes w d D O num hnum h ho)
  · have h1 : onD D num = 1 := by
      unfold onD at ho ⊢
      split at ho
      · exact absurd rfl ho
      · rename_i hh; rw [if_neg hh]
    have hE : Pg.rE D num = 1 := by rw [Pg.rE, if_neg ho]
    have eN : Pg.rN D num = 0 := by rw [Pg.rN, hE, if_neg (by decide)]
    have eB : Pg.rB D num = [] := by rw [Pg.rB, hE, if_neg (by decide)]
    exact (pgRead_off w _ num 1 (by decide) (fun wx t => by rw [← h1]; exact pgAsk_any (h.no t) num hnum) (Or.inr ⟨_, rfl⟩)).mono fun e w' ⟨he, t⟩ =>
      ⟨none, 0, by rw [eN, hE]; exact he, by rw [eB]; rfl, ⟨0, by rw [eB]; exact Own.nil _ _ _⟩, t⟩
end Go.Proofs.YtnffigfafalocaaGreatDoor
namespace Go.Proofs.YtnffigfafalocaaGreatDoor
open Go Go.RowKit

/-- bytes as a text -/
def str (xs : List Nat) : ByteArray := strOfNums (xs.map fun (x : Nat) => (x : Int))
end Go.Proofs.YtnffigfafalocaaGreatDoor
