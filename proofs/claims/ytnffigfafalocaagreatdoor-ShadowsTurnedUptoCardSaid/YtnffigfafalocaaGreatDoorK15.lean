/-
  Package pages by its own text: Write.
  append of what reads as a list, inside a fence. No program in sight.
-/
import Derived.Test.YtnffigfafalocaaGreatDoorK13
import Derived.Test.YtnffigfafalocaaGreatDoorK14
import Derived.IntWalk
import Derived.Test.YtnffigfafalocaaGreatDoorK07
import Derived.OwnWalkIn
namespace Go.Proofs.YtnffigfafalocaaGreatDoor
open Go Go.RowKit Go.Shelf
set_option linter.unusedSimpArgs false
attribute [local go_sem] Oper.semAt_some

/-- blocks of cells -/
def CellsAt (w : World) (k : Nat) : Prop := ∃ c t fr, w.heap[k]? = some (.cells c t fr)
theorem Row.cellsAt {w : World} {g : Nat} {T : TypeId} {l : List Value} (h : Row w g T l) : CellsAt w g := ⟨_, _, _, h⟩
theorem cellsAt_of {w : World} {b o : Nat} {v : Value} (h : w.cell? ⟨b, o, none⟩ = some v) : CellsAt w b := by
  simp only [World.cell?] at h
  split at h
  · rename_i c t fr e; exact ⟨c, t, fr, e⟩
  · cases h
theorem rowCells {w : World} {base e size n : Nat} {v : Value} {xs : List Value} (h : w.ownsRow base e size v n xs) {k : Nat} (hk : InBlock v k) : CellsAt w k := by
  obtain ⟨hl, h⟩ := h
  rcases h with ⟨rfl, _⟩ | ⟨g, cap, cur, rfl, hg, hh, r⟩
  · cases hk
  · have e : g = k := by simpa [InBlock, Value.ownBlock] using hk
    subst e; exact ⟨_, _, _, hh⟩
theorem Dsk.cells {w : World} {d : Nat} {D : Dk.Disk} {B : Nat} {O : Nat → Prop} (h : Dsk w d D B O) : Dsk w d D B (fun k => O k ∧ CellsAt w k) := by
  obtain ⟨⟨gs, gn, cs, cn, rs, rn, vw, hi, h1, h2, h3, h4⟩, lt, ge⟩ := h
  exact ⟨⟨gs, gn, cs, cn, rs, rn, vw, hi, ⟨h1, cellsAt_of hi.c0⟩, ⟨h2, hi.sure.cellsAt⟩, ⟨h3, hi.seen.cellsAt⟩, fun k hk => ⟨h4 k hk, rowCells hi.waits hk⟩⟩, fun k hk => lt k hk.1, fun k hk => ge k hk.1⟩
/-- whatever is no cells lies as it lay -/
theorem Touch.keeps {F : Nat → Prop} {w w' : World} (t : Touch F w w') (hF : ∀ k, F k → k < w.heap.size → CellsAt w k) : KeepsOthers w w' :=
  ⟨t.size, fun k o hk ho => by
    have hlt : k < w.heap.size := (Array.getElem?_eq_some_iff.1 hk).1
    rw [t.block k hlt (fun f => by
      obtain ⟨c, T, fr, e⟩ := hF k f hlt
      rw [hk] at e
      cases e
      cases ho)]
    exact hk⟩
theorem CellsAt.grown {w w' : World} {row : Option Nat} {k : Nat} (h : CellsAt w k) (hg : w.grownBy w' row) (hr : ∀ r, row = some r → ∃ o : Obj, w.heap[r]? = some o ∧ o.isCells = false) : CellsAt w' k := by
  obtain ⟨c, t, fr, e⟩ := h
  refine ⟨c, t, fr, ?_⟩
  rw [hg.block k (Array.getElem?_eq_some_iff.1 e).1 (fun e2 => by
    obtain ⟨o, h1, h2⟩ := hr k e2.symm
    rw [e] at h1
    cases h1
    cases h2)]
  exact e
/-- a step of the loop's own book-keeping -/
theorem touch_grown {w w' : World} {row : Option Nat} (hg : w.grownBy w' row) : Touch (fun k => row = some k) w w' :=
  (Touch.refl _ w).grown hg (fun _ e _ => e)

/-- sectors of a page, written in some order -/
def Pg.wrs (D : Dk.Disk) (num : Nat) (bs : List Nat) (l : List (Fin 4)) : Dk.Disk := l.foldl (fun D x => Dk.write D (4 * num + x.val) (Pg.chunk bs x.val)) D
theorem Pg.wrs_snoc (D : Dk.Disk) (num : Nat) (bs : List Nat) (l : List (Fin 4)) (x : Fin 4) : Pg.wrs D num bs (l ++ [x]) = Dk.write (Pg.wrs D num bs l) (4 * num + x.val) (Pg.chunk bs x.val) := by simp [Pg.wrs]
theorem Pg.wrs_facts (D : Dk.Disk) (num : Nat) (bs : List Nat) : ∀ l : List (Fin 4), (Pg.wrs D num bs l).seen.length = D.seen.length ∧ (Pg.wrs D num bs l).waits.length = D.waits.length + l.length := by
  intro l
  induction l generalizing D with
  | nil => exact ⟨rfl, rfl⟩
  | cons x r ih =>
    have := ih (Dk.write D (4 * num + x.val) (Pg.chunk bs x.val))
    simp only [Pg.wrs, List.foldl_cons] at this ⊢
    rw [this.1, this.2]
    simp [Dk.write]; omega

/-- blocks that are of use beside the disk's -/
def PgFar (w : World) (Bd Be Bb : Nat) (O : Nat → Prop) (v : Value) (w0 : World) (k : Nat) : Prop := CellsAt w k ∧ (O k ∨ w0.heap.size ≤ k) ∧ k ≠ Bd ∧ k ≠ Be ∧ k ≠ Bb ∧ k ≠ Bb + 1 ∧ ¬ InBlock v k
structure PgIn (w : World) (Bd Be Bb : Nat) (d : Nat) (D : Dk.Disk) (B : Nat) (O : Nat → Prop) (a : Option Addr) (c : Nat) (bs : List Nat) (w0 : World) : Prop where
  dsk : ∃ O', Dsk w d D B O' ∧ ∀ k, O' k → PgFar w Bd Be Bb O (.slice a 256 c) w0 k
  t : Touch O w0 w
  cd : w.cell? ⟨Bd, 0, none⟩ = some (dskV (some ⟨d, 0, none⟩))
  ce : ∃ v, w.cell? ⟨Be, 0, none⟩ = some v ∧ w.frozen? ⟨Be, 0, none⟩ = false
  cb : w.cell? ⟨Bb, 0, none⟩ = some (.slice a 256 c)
  rd : Rd w a (nums .u8 bs)
  lt : ∀ k, InBlock (.slice a 256 c) k → k < w.heap.size
theorem PgIn.grown {w w' : World} {Bd Be Bb d B : Nat} {D : Dk.Disk} {O : Nat → Prop} {a : Option Addr} {c : Nat} {bs : List Nat} {w0 : World} (h : PgIn w Bd Be Bb d D B O a c bs w0) {row : Option Nat} (hg : w.grownBy w' row)
    (hr : ∀ r, row = some r → w0.heap.size ≤ r ∧ ∃ o : Obj, w.heap[r]? = some o ∧ o.isCells = false) : PgIn w' Bd Be Bb d D B O a c bs w0 := by
  have t := touch_grown hg
  have hc : ∀ k, CellsAt w k → ¬ row = some k := fun k ⟨cc, tt, fr, e⟩ e2 => by
    obtain ⟨_, o, h1, h2⟩ := hr k e2
    rw [e] at h1; cases h1; cases h2
  obtain ⟨⟨O', hD, hO⟩, ht, cd, ⟨v, ce, cf⟩, cb, rd, lt⟩ := h
  refine ⟨⟨O', hD.touch t (fun k hk => hc k (hO k hk).1), fun k hk => ⟨(hO k hk).1.grown hg (fun r e => (hr r e).2), (hO k hk).2⟩⟩, ht.then t (fun i hi e => absurd hi (Nat.not_lt.2 (hr i e).1)), t.cell (hc _ (cellsAt_of cd)) cd, ⟨v, t.cell (hc _ (cellsAt_of ce)) ce, (t.frozen (lt_of_cell ce) (hc _ (cellsAt_of ce)) 0).trans cf⟩, t.cell (hc _ (cellsAt_of cb)) cb, ?_, fun k hk => Nat.lt_of_lt_of_le (lt k hk) t.size⟩
  intro i u hi
  obtain ⟨b, o, e, hcell⟩ := rd i u hi
  exact ⟨b, o, e, t.cell (hc _ (cellsAt_of hcell)) hcell⟩
theorem PgIn.step {w w' : World} {Bd Be Bb d B : Nat} {D D' : Dk.Disk} {O O' : Nat → Prop} {a : Option Addr} {c : Nat} {bs : List Nat} {w0 : World} (h : PgIn w Bd Be Bb d D B O a c bs w0)
    (hO : ∀ k, O' k → PgFar w Bd Be Bb O (.slice a 256 c) w0 k) (hA : After w d D' B O' w') (hs : Bb + 2 ≤ w.heap.size) (hw0 : w0.heap.size ≤ w.heap.size) :
    PgIn w' Bd Be Bb d D' B O a c bs w0 ∧ KeepsOthers w w' ∧ KeepB (Bb + 1) w w' := by
  obtain ⟨t, O2, hD2, hin⟩ := hA
  obtain ⟨_, ht, cd, ⟨v, ce, cf⟩, cb, rd, lt⟩ := h
  have hD3 := hD2.cells
  have nin : ∀ k, (k = Bd ∨ k = Be ∨ k = Bb ∨ k = Bb + 1 ∨ InBlock (.slice a 256 c) k) → ¬ O' k := fun k hk ho => by
    obtain ⟨_, _, h1, h2, h3, h4, h5⟩ := hO k ho
    rcases hk with h | h | h | h | h
    · exact h1 h
    · exact h2 h
    · exact h3 h
    · exact h4 h
    · exact h5 h
  have l1 := lt_of_cell cd
  have l2 := lt_of_cell ce
  refine ⟨⟨⟨_, hD3, fun k hk => ⟨hk.2, ?_, ?_⟩⟩, ht.then t (fun i hi ho => ?_), t.cell (nin _ (by simp)) cd, ⟨v, t.cell (nin _ (by simp)) ce, (t.frozen (lt_of_cell ce) (nin _ (by simp)) 0).trans cf⟩, t.cell (nin _ (by simp)) cb, ?_, fun k hk => Nat.lt_of_lt_of_le (lt k hk) t.size⟩, t.keeps (fun k hk _ => (hO k hk).1), ?_⟩
  · rcases hin k hk.1 with h | h
    · exact (hO k h).2.1
    · exact Or.inr (Nat.le_trans hw0 h)
  · rcases hin k hk.1 with h | h
    · exact (hO k h).2.2
    · exact ⟨by omega, by omega, by omega, by omega, fun hb => by have := lt k hb; omega⟩
  · rcases (hO i ho).2.1 with h | h
    · exact h
    · omega
  · intro i u hi
    obtain ⟨b, o, e, hcell⟩ := rd i u hi
    exact ⟨b, o, e, t.cell (nin _ (by simp [e, InBlock, Value.ownBlock])) hcell⟩
  · exact t.block _ (by omega) (nin _ (by simp))

set_option maxRecDepth 100000 in
set_option maxHeartbeats 4000000 in
theorem pgWrite_yes (w : World) (d : Nat) (D : Dk.Disk) (B : Nat) (O : Nat → Prop) (num epoch : Nat) (hnum : num < 4294967296) (hep : epoch < 4294967296) (a : Option Addr) (n c : Nat) (q : List Nat) (hq : q.length = n) (hn : n ≤ 240) (hr : Rd w a (nums .u8 q)) (hlt : ∀ x ∈ q, x < 256)
    (hB : B ≤ w.heap.size) (h : Dsk w d D B O) (hw : D.waits.length ≤ 100000) (ho : onD D num = 0) (bs : List Nat) (hbs0 : Pg.put num epoch q = bs) :
    CallsIn Fence.wide 6 Tryz.prog 51 #[dskV (some ⟨d, 0, none⟩), .int .u32 (num : Nat), .int .u32 (epoch : Nat), .slice a n c] w fun e w' => e = .returned (.int .i64 0) ∧ After w d (Pg.wr D num bs 4) B O w' := by
  refine callsIn_of_wp_marks Tryz.func51 rfl trivial ?_ rfl
  simp only [Tryz.ntmps51, List.size_toArray, List.length_cons, List.length_nil, Nat.reduceAdd, Nat.reduceSub, Array.replicate_succ, Array.replicate_zero, List.push_toArray, List.append_toArray, List.nil_append, List.cons_append]
  gi_wp2
  refine ⟨trivial, (callsIn_wide.2 (pgAsk_any (h.on.no (((Touch.refl No w).alloc _).alloc _)) num hnum)).mono ?_⟩
  rw [ho]
  rintro e w1 ⟨rfl, t1⟩
  gi_wp2
  refine ⟨trivial, (callsIn_wide.2 (pagePut_any w1 num epoch hnum hep a n c q hq hn (hr.no ((((Touch.refl No w).alloc _).alloc _).trans t1)) hlt)).mono ?_⟩
  rintro e w2 ⟨a2, c2, rfl, o2, t2⟩
  gi_wp2
  have hbs : (Pg.put num epoch q).length = 256 := Pg.put_length (by omega)
  have hbl : ∀ x ∈ Pg.put num epoch q, x < 256 := Pg.put_lt hlt
  rw [hbs0] at hbs hbl o2
  refine ⟨trivial, (callsIn_wide.2 (each_any _ num)).mono ?_⟩
  rintro e w3 ⟨rfl, h3⟩
  have hs2 := t2.size
  have hs1 := t1.size
  rw [size_alloc, size_alloc] at hs1
  have t12 : Touch No w w2 := ((((Touch.refl No w).alloc _).alloc _).trans t1).trans t2
  have t3 : Touch No w w3 := by rw [← h3]; exact (t12.alloc _).alloc _
  have hs3 : w3.heap.size = w2.heap.size + 2 := by rw [← h3]; simp
  have hPg : PgIn w3 w.heap.size (w.heap.size + 1) w2.heap.size d (Pg.wrs D num bs []) B O a2 c2 bs w := by
    have Hd := h.cells
    refine ⟨⟨_, Hd.no t3, fun k hk => ?_⟩, t3.no, ?_, ?_, ?_, ?_, fun k hk => ?_⟩
    · have hlt := h.lt k hk.1
      refine ⟨?_, Or.inl hk.1, by omega, by omega, by omega, by omega, fun hb => by have := (o2.block hb).1; have := t1.size; simp at this; omega⟩
      obtain ⟨cc, tt, fr, e⟩ := hk.2
      exact ⟨cc, tt, fr, by rw [t3.block k hlt id]; exact e⟩
    · rw [← h3, cell_old _ _ (by simp; omega), cell_old _ _ (by omega)]
      refine (t1.trans t2).cell (id : No _ → False) ?_
      rw [cell_old _ _ (by simp), cell_new]; rfl
    · refine ⟨.int .i64 0, ?_, ?_⟩
      · rw [← h3, cell_old _ _ (by simp; omega), cell_old _ _ (by omega)]
        refine (t1.trans t2).cell (id : No _ → False) ?_
        have := cell_new (w.alloc (.cells #[dskV (some ⟨d, 0, none⟩)] 193)) #[.int .i64 0] 33 (0, 0) 0
        rw [size_alloc] at this; exact this
      · rw [← h3, frozen_old _ _ (by simp; omega), frozen_old _ _ (by omega)]
        rw [(t1.trans t2).frozen (by simp) id]
        have := frozen_new (w.alloc (.cells #[dskV (some ⟨d, 0, none⟩)] 193)) #[.int .i64 0] 33 0
        rw [size_alloc] at this; exact this
    · rw [← h3, cell_old _ _ (by simp), cell_new]; rfl
    · have := o2.rd.no (((Touch.refl No w2).alloc (.cells #[.slice a2 256 c2] 39)).alloc (.cells #[.int .u32 (num : Nat)] 38))
      rw [h3] at this; exact this
    · have := (o2.block hk).2; omega
  have hk3 : w3.cell? ⟨w2.heap.size + 1, 0, none⟩ = some (.int .u32 (num : Nat)) := by
    rw [← h3]
    have := cell_new (w2.alloc (.cells #[.slice a2 256 c2] 39)) #[.int .u32 (num : Nat)] 38 (0, 0) 0
    rw [size_alloc] at this; exact this
  simp only [size_alloc]
  gi_wp2
  obtain ⟨Bd, hBd⟩ : ∃ Bd, Bd = w.heap.size := ⟨_, rfl⟩
  obtain ⟨Bb, hBb⟩ : ∃ Bb, Bb = w2.heap.size := ⟨_, rfl⟩
  rw [← hBd, ← hBb] at hPg
  rw [← hBb] at hk3
  rw [← hBd, ← hBb]
  have HK3 := Lib.hid hk3
  have HPg := Lib.hid hPg
  have Hbs := Lib.hid hbs
  have Hbl := Lib.hid hbl
  have hlen : Hid (4 * num + 4 ≤ D.seen.length) := by
    show _ ≤ _
    unfold onD at ho
    split at ho
    · assumption
    · cases ho
  have Hw := Lib.hid hw
  have HB := Lib.hid hB
  have Hs3 := Lib.hid hs3
  have HBd := Lib.hid hBd
  have HBb := Lib.hid hBb
  have hc256 : 256 ≤ c2 := o2.room.1
  have HC := Lib.hid hc256
  have hn9 : (num : Int) ≤ 4294967295 := by omega
  have Hs1 := Lib.hid (show w.heap.size + 2 ≤ w2.heap.size by omega)
  obtain ⟨I, hi0, hi1, hi2, hi3⟩ := u8_info
  have HI := Lib.hid (And.intro hi0 hi2)
  have h3s : w3.heap.size = Bb + 2 := by rw [hs3, hBb]
  clear hk3 hPg hbs hbl hw hB hs3 hBd hBb hc256 o2 h3 hs1 hs2 t12 t3 t1 t2 hq hn hr hlt h ho hep hbs0 hi0 hi1 hi2 hi3 hnum
  refine wpIn_rangeFunc_ownG rfl (by decide) (gf := 216) (lb := #[.pointer (some ⟨Bb + 1, 0, none⟩)]) rfl trivial (enters_of Tryz.func216 (by kernel_rfl) rfl)
    (each_stops 5 (by decide) (Bb + 1) num (by omega) w3 (by omega) HK3.out) keepB_t (keepB_b (by omega)) (Below.refl _ _) (fun _ => rfl)
    (fun pre W => PgIn W Bd (Bd + 1) Bb d (Pg.wrs D num bs pre) B O a2 c2 bs w ∧ Bb + 2 ≤ W.heap.size ∧ pre.length ≤ 4)
    (fun _ _ _ => False)
    ?own
    (fun _ _ _ _ _ hs _ _ => hs)
    ⟨HPg.out, by omega, Nat.zero_le _⟩
    (fun x => { tmps := #[dskV (some ⟨d, 0, none⟩), .int .u32 (num : Nat), .int .u32 (epoch : Nat), .slice a n c, .pointer (some ⟨Bd, 0, none⟩), undef, undef, undef, .pointer (some ⟨Bd + 1, 0, none⟩), .int .i64 0, .pointer (some ⟨Bb, 0, none⟩), .int .i64 0, .int .i64 ((num : Int) * 4 + ((x.val : Nat) : Int)), .int .i64 (((x.val : Nat) : Int) * 64), undef,
          dskV (some ⟨d, 0, none⟩), .int .u32 (num : Nat), .int .i64 0, .int .i64 0, .bool false, undef, .tuple #[.slice a2 256 c2, .int .i64 0], .int .u32 (num : Nat), .int .u32 (epoch : Nat), .slice a n c, .tuple #[.slice a2 256 c2, .int .i64 0], .slice a2 256 c2, .int .i64 0, .int .i64 0, .bool false, undef, .int .u32 (num : Nat),
          .func (.func 216) #[] #[.pointer (some ⟨Bb + 1, 0, none⟩)], .int .i64 ((num : Int) * 4 + ((x.val : Nat) : Int)), .int .i64 (((x.val : Nat) : Int) * 64), undef, undef, undef, undef, undef, undef, undef, undef, undef, undef, undef, undef, undef, undef], defers := [] }) ?assign ?body ?done ?stop
  case own =>
    rintro s W W' row ⟨hs, hz, hl⟩ hg hr
    exact ⟨hs.grown hg (fun r e => ⟨by have := (hr r e).1; have := Hs1.out; have := HBb.out; omega, (hr r e).2⟩), Nat.le_trans hz hg.size, hl⟩
  case assign =>
    intro l x W K hK
    gi_wp2
    exact hK
  case body =>
    rintro l pre x W ⟨hP, hz, hl⟩ hlt
    obtain ⟨O', hD, hO⟩ := hP.dsk
    obtain ⟨k, hk⟩ : ∃ k, x.val = k := ⟨_, rfl⟩
    have hk4 : k < 4 := by rw [← hk]; exact x.isLt
    have hcd := hP.cd
    have hcb := hP.cb
    have hcut : ∀ wx : World, (Instr.slice 39 (.slice a2 256 c2) (some (.int .i64 ((k : Int) * 64))) (some (.int .i64 ((k : Int) * 64 + 64))) none).run Tryz.prog wx = .ok (.slice (cutAddr a2 c2 (64 * k)) 64 (c2 - 64 * k)) wx := fun wx => by
      have := run_cut2 Tryz.underlying39 HI.out.1 HI.out.2 a2 256 c2 (64 * k) (64 * k + 64) .i64 .i64 (by omega) (by have := HC.out; omega) wx
      rw [show 64 * k + 64 - 64 * k = 64 by omega, show ((64 * k : Nat) : Int) = (k : Int) * 64 by omega, show ((64 * k + 64 : Nat) : Int) = (k : Int) * 64 + 64 by omega] at this; exact this
    have hmf : ∀ (fn : Fn) (first cap : Array Value) (w : World), (Instr.makeFunc fn first cap).run Tryz.prog w = .ok (.func fn first cap) w := fun _ _ _ _ => rfl
    have hm := methWrite
    have hnl := nilWrite
    have hk9 : (k : Int) ≤ 3 := by omega
    rw [hk]
    have hw64 : IntKind.i64.wrap ((k : Int) * 64 + 64) = (k : Int) * 64 + 64 := IntWalk.i64_in _ (by omega)
    have hmx : Tryz.prog.follows .mixedOrders = true := by kernel_rfl
    have hfacts := Pg.wrs_facts D num bs pre
    have hpre : pre.length < 4 := hlt
    have HWr : Hid (∀ wx, Touch No W wx → Calls Tryz.prog 147 #[.pointer (some ⟨d, 0, none⟩), .int .i64 ((num : Int) * 4 + (k : Int)), .slice (cutAddr a2 c2 (64 * k)) 64 (c2 - 64 * k)] wx fun e w' => e = .returned (.int .i64 0) ∧ After wx d (Dk.write (Pg.wrs D num bs pre) (4 * num + k) (Pg.chunk bs k)) B O' w') := fun wx t => by
      have hrd : Rd wx (cutAddr a2 c2 (64 * k)) (nums .u8 (Pg.chunk bs k)) := by
        have := ((hP.rd.no t).cut (cap := c2) (l := 64 * k) (by rw [nums_length, Hbs.out]; exact HC.out)).take 64
        rw [nums, ← List.map_drop, ← List.map_take] at this; exact this
      have := write_k wx d (Pg.wrs D num bs pre) B O' (4 * num + k) (cutAddr a2 c2 (64 * k)) 64 (c2 - 64 * k) (Pg.chunk bs k) (by have := HB.out; have := t.size; have := HBb.out; have := Hs1.out; omega) (hD.no t) (by rw [hfacts.1]; have := hlen.out; omega) (Pg.chunk_length Hbs.out hk4) (by decide) (Pg.chunk_lt Hbl.out k) hrd (by rw [hfacts.2]; have := Hw.out; omega)
      rw [show ((4 * num + k : Nat) : Int) = (num : Int) * 4 + (k : Int) by omega] at this
      exact this
    have hP' := Lib.hid hP
    have HO := Lib.hid hO
    have Hk := Lib.hid hk
    clear hP hO hk hfacts hD hlt
    gi_wp2
    refine wpIn_region_still_tail 10 hmx (by kernel_rfl) ?_
    simp only [List.take_succ_cons, List.take_zero, List.drop_succ_cons, List.drop_zero]
    repeat still_step
    refine wpStill_nil ?_
    clear hmx hcut
    gi_wp2
    refine ⟨trivial, (CallsIn.inRound l (callsIn_wide.2 (HWr.out _ ((Touch.refl No W).drew)))).mono ?_⟩
    rintro e w' ⟨rfl, hA⟩
    have HA := Lib.hid hA
    clear hA hcd hcb hw64 hm hnl hmf HWr
    gi_wp2
    have hPd : PgIn W.drew Bd (Bd + 1) Bb d (Pg.wrs D num bs pre) B O a2 c2 bs w := hP'.out.grown (row := none) ⟨rfl, rfl, rfl, Nat.le_refl _, fun _ _ _ => rfl⟩ (fun r e => by cases e)
    obtain ⟨s1, s2, s3⟩ := hPd.step HO.out HA.out hz (by have := Hs1.out; have := HBb.out; have : W.drew.heap.size = W.heap.size := rfl; omega)
    refine ⟨((KeepsOthers.drew W).trans s2).from _, keepB_t (show KeepB (Bb + 1) W W.drew from rfl) s3, ?_, ?_, ?_⟩
    · rw [Pg.wrs_snoc, Hk.out]; exact s1
    · have := s2.size
      have h2 : W.drew.heap.size = W.heap.size := rfl
      omega
    · rw [List.length_append]; simp only [List.length_cons, List.length_nil]; omega
  case done =>
    rintro Dq ys W hD rfl ⟨hP, hz, _⟩ hK
    obtain ⟨v, hce, hcf⟩ := hP.ce
    have HP := Lib.hid hP
    have HK := Lib.hid hK
    have HD := Lib.hid hD
    clear hP hK hD
    gi_wp2
    have k1 : (W.setCell ⟨Bd + 1, 0, none⟩ (.int .i64 0)).heap[Dq]? = some (.deferred (some [])) := (KeepsOthers.setCell W ⟨Bd + 1, 0, none⟩ (.int .i64 0)).same Dq _ HK.out rfl
    refine ⟨by simp, .inl ⟨_, _, rfl, run_takeDeferred k1, ?_⟩⟩
    have tb : Touch (One (Bd + 1)) W (W.setCell ⟨Bd + 1, 0, none⟩ (.int .i64 0)) := (Touch.refl (One (Bd + 1)) W).setCell (p := ⟨Bd + 1, 0, none⟩) (fun _ => rfl) _
    have t2 := touch_grown (grownBy_putObj' (W.setCell ⟨Bd + 1, 0, none⟩ (.int .i64 0)) Dq (.deferred none))
    have hne : ∀ k, CellsAt W k → ¬ (some Dq = some k) := fun k ⟨cc, tt, fr, e⟩ e2 => by
      cases e2
      rw [HK.out] at e; cases e
    have c1 : (W.setCell ⟨Bd + 1, 0, none⟩ (.int .i64 0)).cell? ⟨Bd + 1, 0, none⟩ = some (.int .i64 0) := cell_set hce
    have c2' := t2.cell (hne _ (cellsAt_of hce)) c1
    refine ⟨.int .i64 0, by simp [results, Tryz.results51, go_sem, c2'], rfl, ?_⟩
    obtain ⟨O', hDs, hO⟩ := HP.out.dsk
    refine ⟨(HP.out.t.then tb (fun i hi e => ?_)).then t2 (fun i hi e => ?_), O', (hDs.touch tb (fun k hk e => (hO k hk).2.2.2.1 e)).touch t2 (fun k hk => hne k (hO k hk).1), fun k hk => (hO k hk).2.1⟩
    · have e2 : i = Bd + 1 := e
      have := HBd.out
      omega
    · have e2 : Dq = i := Option.some.inj e
      have := HD.out
      have := Hs1.out
      have := HBb.out
      omega
  case stop =>
    rintro Dq c pre W _ _ h _
    exact h.elim

theorem second_new (w : World) (o : Obj) (x : Value) (T : TypeId) : ((w.alloc o).alloc (.cells #[x] T)).cell? ⟨w.heap.size + 1, 0, none⟩ = some x ∧ ((w.alloc o).alloc (.cells #[x] T)).frozen? ⟨w.heap.size + 1, 0, none⟩ = false := by
  rw [← size_alloc w o]
  exact ⟨by rw [cell_new]; rfl, frozen_new _ _ _ 0⟩
set_option maxRecDepth 100000 in
set_option maxHeartbeats 4000000 in
theorem pgWrite_off (w : World) (v : Value) (num epoch : Nat) (s : Value) (r : Nat) (hr : r ≠ 0) (hask : ∀ wx, Touch No w wx → Calls Tryz.prog 140 #[v, .int .u32 (num : Nat)] wx fun e w' => e = .returned (.int .i64 (r : Nat)) ∧ Touch No wx w') (hv : v = .nilIface ∨ ∃ p, v = dskV p) :
    Calls Tryz.prog 51 #[v, .int .u32 (num : Nat), .int .u32 (epoch : Nat), s] w fun e w' => e = .returned (.int .i64 (r : Nat)) ∧ Touch No w w' := by
  have Hask := Lib.hid hask
  have hr1 : ((r : Int) != 0) = true := by simp; omega
  clear hask hr
  rcases hv with rfl | ⟨p, rfl⟩
  all_goals
    go_enter Tryz.func51, Tryz.ntmps51
    go_wp2_with fail
    refine (Hask.out _ (((Touch.refl No w).alloc _).alloc _)).mono ?_
    rintro e w1 ⟨rfl, t1⟩
    have c0 := t1.cell (id : No _ → False) (second_new w _ _ _).1
    have f0 := (t1.frozen (lt_of_cell (second_new w _ _ _).1) id 0).trans (second_new w _ _ _).2
    have T1 := Lib.hid ((((Touch.refl No w).alloc _).alloc _).trans t1)
    clear t1
    go_wp2
    have c1 : (w1.setCell ⟨w.heap.size + 1, 0, none⟩ (.int .i64 (r : Nat))).cell? ⟨w.heap.size + 1, 0, none⟩ = some (.int .i64 (r : Nat)) := cell_set c0
    exact bodyPost_ret (v := .int .i64 (r : Nat)) (by simp [results, Tryz.results51, go_sem, c1]) rfl ⟨rfl, T1.out.setCell (p := ⟨w.heap.size + 1, 0, none⟩) (fun h => absurd h (Nat.not_lt.2 (Nat.le_succ _))) _⟩

set_option maxRecDepth 100000 in
set_option maxHeartbeats 4000000 in
theorem pgWrite_long (w : World) (d : Nat) (D : Dk.Disk) (O : Nat → Prop) (num epoch : Nat) (hnum : num < 4294967296) (a : Option Addr) (n c : Nat) (hn : 240 < n) (h : DiskAt w d D O) (ho : onD D num = 0) :
    Calls Tryz.prog 51 #[dskV (some ⟨d, 0, none⟩), .int .u32 (num : Nat), .int .u32 (epoch : Nat), .slice a n c] w fun e w' => e = .returned (.int .i64 1) ∧ Touch No w w' := by
  have H := Lib.hid h
  have Ho := Lib.hid ho
  have Hnum := Lib.hid hnum
  clear h ho hnum
  go_enter Tryz.func51, Tryz.ntmps51
  go_wp2_with fail
  refine (pgAsk_any (H.out.no (((Touch.refl No w).alloc _).alloc _)) num Hnum.out).mono ?_
  rw [Ho.out]
  rintro e w1 ⟨rfl, t1⟩
  have c0 := t1.cell (id : No _ → False) (second_new w _ _ _).1
  have f0 := (t1.frozen (lt_of_cell (second_new w _ _ _).1) id 0).trans (second_new w _ _ _).2
  have T1 := Lib.hid ((((Touch.refl No w).alloc _).alloc _).trans t1)
  have hl := lt_of_cell c0
  clear t1
  go_wp2_with fail
  refine (pagePut_no w1 num epoch a n c hn).mono ?_
  rintro e w2 ⟨rfl, rfl⟩
  go_wp2
  have c1 : ((w1.setCell ⟨w.heap.size + 1, 0, none⟩ (.int .i64 1)).alloc (.cells #[.slice none 0 0] 39)).cell? ⟨w.heap.size + 1, 0, none⟩ = some (.int .i64 1) := by
    rw [cell_old _ _ (by simpa [World.setCell] using hl)]; exact cell_set c0
  exact bodyPost_ret (v := .int .i64 1) (by simp [results, Tryz.results51, go_sem, c1]) rfl ⟨rfl, (T1.out.setCell (p := ⟨w.heap.size + 1, 0, none⟩) (fun h => absurd h (Nat.not_lt.2 (Nat.le_succ _))) _).alloc _⟩

theorem pgWrite_k (w : World) (d : Nat) (D : Dk.Disk) (B : Nat) (O : Nat → Prop) (num epoch : Nat) (hnum : num < 4294967296) (hep : epoch < 4294967296) (a : Option Addr) (n c : Nat) (q : List Nat) (hq : q.length = n) (hr : Rd w a (nums .u8 q)) (hlt : ∀ x ∈ q, x < 256)
    (hB : B ≤ w.heap.size) (h : Dsk w d D B O) (hw : D.waits.length ≤ 100000) :
    Calls Tryz.prog 51 #[dskV (some ⟨d, 0, none⟩), .int .u32 (num : Nat), .int .u32 (epoch : Nat), .slice a n c] w fun e w' => e = .returned (.int .i64 (Pg.wE D num q : Nat)) ∧ After w d (Pg.wD D num epoch q) B O w' := by
  have off : ∀ w', Touch No w w' → After w d D B O w' := fun w' t => ⟨t.no, O, h.no t, fun k hk => Or.inl hk⟩
  by_cases ho : onD D num = 0
  · by_cases hn : n ≤ 240
    · have h0 : Pg.wE D num q = 0 := by rw [Pg.wE, if_pos ⟨ho, by omega⟩]
      rw [Pg.wD, h0, if_pos rfl]
      exact callsIn_wide.1 (pgWrite_yes w d D B O num epoch hnum hep a n c q hq hn hr hlt hB h hw ho _ rfl)
    · have h0 : Pg.wE D num q = 1 := by rw [Pg.wE, if_neg (fun hh => by omega)]
      rw [Pg.wD, h0, if_neg (by decide)]
      exact (pgWrite_long w d D O num epoch hnum a n c (by omega) h.on ho).mono fun e w' ⟨he, t⟩ => ⟨he, off w' t⟩
  · have h1 : onD D num = 1 := by
      unfold onD at ho ⊢
      split at ho
      · exact absurd rfl ho
      · rename_i hh; rw [if_neg hh]
    have h0 : Pg.wE D num q = 1 := by rw [Pg.wE, if_neg (fun hh => ho hh.1)]
    rw [Pg.wD, h0, if_neg (by decide)]
    exact (pgWrite_off w _ num epoch _ 1 (by decide) (fun wx t => by rw [← h1]; exact pgAsk_any (h.on.no t) num hnum) (Or.inr ⟨_, rfl⟩)).mono fun e w' ⟨he, t⟩ => ⟨he, off w' t⟩
end Go.Proofs.YtnffigfafalocaaGreatDoor
namespace Go.Proofs.YtnffigfafalocaaGreatDoor
open Go Go.RowKit
theorem wpListIn_append_rd {F : Fence} {n : Nat} {P : Program} {w : World} {ops : Array Oper} {rest : List Oper} {o : Oper} {a : Act} {Q : Exit → Act → World → Prop} (hgd : o.guard = none) (s x : Operand) (t : TypeId) (ho : o.op = .call { callee := .builtin .append, args := #[s, x], argTypes := #[t, t] })
    (base : Nat) (e : TypeId) (i : TypeInfo) (z : Value) (bytes : Nat) (ht : P.underlying t = some (.slice e)) (hi : P.info? e = some i) (hz : i.zero = some z) (hsize : i.size = 1) (hby : i.bytes = bytes) (hzs : z.cells.size = 1)
    (v : Value) (vs : List Value) (hown : Own w base e v vs) (hs : a.eval s = v) (ad : Option Addr) (m c : Nat) (us : List Value) (hx : a.eval x = .slice ad m c) (hl : us.length = m) (hr : Rd w ad us) (h1 : ∀ u ∈ us, u.oneCell' = true)
    (h63 : vs.length + m ≤ maxLen) (hbytes : (vs.length + m) * bytes ≤ 140737488355328) (hbase : base ≤ w.heap.size)
    (h : ∀ v' w', Own w' base e v' (vs ++ us) → Touch (InBlock v) w w' → wpListIn F n P ops Q rest (a.put o.dst v') w') : wpListIn F n P ops Q (o :: rest) a w := by
  refine wpListIn_plain hgd fun K hK' => ?_
  obtain ⟨v', w', hrun, r1, r2⟩ := run_append_rd (P := P) (w := w) base t o.type e i z bytes ht hi hz hsize hby hzs v vs hown ad m c us hl hr h1 h63 hbytes hbase
  unfold Oper.wpIn
  refine ⟨?_, ?_⟩
  · simp [Oper.about, ho, resolve, Target.leads, Sem.run_pure]
  · rw [Oper.semAt_plain F _ _ (by rw [ho]; intro c hc'; cases hc')]
    simp [execOp, ho, resolve, invoke, builtin, hs, hx, hrun, Result.andThen]
    exact hK' _ _ (h v' w' r1 r2)
end Go.Proofs.YtnffigfafalocaaGreatDoor
