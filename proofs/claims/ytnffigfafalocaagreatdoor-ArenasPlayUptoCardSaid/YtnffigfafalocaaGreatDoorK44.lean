/-
  Package drydockref24 by its own text: Take.
-/
import Derived.Test.YtnffigfafalocaaGreatDoorK43
import Derived.Test.YtnffigfafalocaaGreatDoorK28
import Derived.StillTailTactics
import Derived.Deep.DeepCutAuto
import Derived.Deep.CutBlock
import Derived.Lib.SmallJoins
namespace Go.Proofs.YtnffigfafalocaaGreatDoor
open Go Go.RowKit
set_option linter.unusedSimpArgs false
set_option linter.unusedVariables false

/-- what the walks of the arena's reference say: its answer, and its list then -/
def Ref24Post (w : World) (g : Nat) (O : Nat → Prop) (er : Nat) (A : Ar.Arena) (n : Nat) (e : Ending) (w' : World) : Prop :=
  e = .returned (.int .i64 (er : Nat)) ∧ ∃ R', R'.map Ar.REnt.it = A.its ∧ R'.length ≤ n ∧ TurnsL w O [Part.ref24 g A.room A.used A.peak R'] w'
theorem ref24_same {w w' : World} {g er : Nat} {A : Ar.Arena} {R : List Ar.REnt} {O : Nat → Prop} {n : Nat} (h : (Part.ref24 g A.room A.used A.peak R).P w O) (hR : R.map Ar.REnt.it = A.its) (hn : R.length ≤ n) (t : Touch No w w') : Ref24Post w g O er A n (.returned (.int .i64 (er : Nat))) w' :=
  ⟨rfl, R, hR, hn, (TurnsL.same (l := [Part.ref24 g A.room A.used A.peak R]) ⟨O, fun _ => False, h, trivial, fun _ _ f => f, fun _ h => h, fun _ f => f.elim⟩).no t⟩
theorem takeE_cases (A : Ar.Arena) (R : List Ar.REnt) (hok : Ar.Ok A) (hR : R.map Ar.REnt.it = A.its) (id : Nat) : (Ar.look A.its id).isSome = Ar.isAt R id := by
  rw [← hR, Ar.look_is id (by rw [hR]; exact hok.up)]
  cases hi : Ar.isAt R id with
  | false => simp
  | true =>
    obtain ⟨e, he, _⟩ := Ar.isAt_get hi
    simp [he]
/-- a new list, in memory of its own, takes the old one's place -/
theorem ref24_new {w w1 w2 : World} {g room used peak used' peak' : Nat} {R R' : List Ar.REnt} {O : Nat → Prop} {v : Value}
    (h : (Part.ref24 g room used peak R).P w O) (t : Touch (fun k => k = g) w w1)
    (hown : w1.ownsRow 0 169 5 v R'.length (entCells R')) (hge : ∀ k, InBlock v k → w.heap.size ≤ k)
    (hsub : ∀ e ∈ R', e ∈ R ∨ (e.s = [] ∧ e.l = [] ∧ e.sa = none ∧ e.la = none))
    (hrow : Row w2 g 160 (refCells room used' peak' v)) (t2 : Touch (fun k => k = g) w1 w2) : TurnsL w O [Part.ref24 g room used' peak' R'] w2 := by
  have hlt0 := (Part.ref24 g room used peak R).lt h
  obtain ⟨a, c, A1, A2, A3, hat, p1, p2, p3, d12, d13, d23, o1, o2, o3⟩ := ref24_at h
  have hg1 : A1 g := p1.2.1
  have hgw : g < w.heap.size := hat.row.lt
  have hs1 := t.size
  have hs2 := t2.size
  have hvlt : ∀ k, InBlock v k → k < w1.heap.size := fun k hk => (rowBlock hown hk).2
  have q1 : (Part.row g 160 (refCells room used' peak' v)).P w2 (fun k => k = g) := ⟨hrow, rfl, fun k hk => by rw [hk]; exact hrow.lt⟩
  have q2 : (Part.rows 169 5 v R'.length (entCells R')).P w2 (InBlock v) := ⟨rowTouch hown t2 (fun k hk e => by have := hge k hk; omega), fun _ h => h, fun k hk => by have := hvlt k hk; omega⟩
  have p3' := (Part.lists R).stable ((Part.lists R).stable p3 t (fun k hk e => by rw [e] at hk; exact d13 g hg1 hk)) t2 (fun k hk e => by rw [e] at hk; exact d13 g hg1 hk)
  have q3 : (Part.lists R').P w2 (fun k => A3 k) := lists_sub p3' (fun e he => (hsub e he).imp id (fun ⟨h1, h2, h3, h4⟩ => ⟨⟨by rw [h1, h3]; exact Rd.nil _ _, by rw [h2, h4]; exact Rd.nil _ _⟩, (fun b o e' => by rw [h3] at e'; cases e'), (fun b o e' => by rw [h4] at e'; cases e')⟩))
  have h3lt : ∀ k, A3 k → k < w.heap.size := p3.2
  refine ⟨(t.mono (G := O) (fun k _ e => by rw [e]; exact o1 g hg1)).then (t2.mono (G := O) (fun k _ e => by rw [e]; exact o1 g hg1)) (fun i _ hi => hi), fun k => k = g ∨ InBlock v k ∨ A3 k, ⟨_, fun _ => False, ref24_of (O := fun _ => True) q1 q2 q3 (fun k hk h => by rw [hk] at h; have := hge g h; omega) (fun k hk h => by rw [hk] at h; exact d13 g hg1 h) (fun k hk h => by have := hge k hk; have := h3lt k h; omega) (fun _ _ => trivial) (fun _ _ => trivial) (fun _ _ => trivial), trivial, fun _ _ f => f, fun _ h => h, fun _ f => f.elim⟩, fun k hk => ?_⟩
  rcases hk with hk | hk | hk
  · rw [hk]; exact Or.inl (o1 g hg1)
  · exact Or.inr (hge k hk)
  · exact Or.inl (o3 k hk)

set_option maxRecDepth 100000 in
set_option maxHeartbeats 4000000 in
theorem refTake24_any (w : World) (g : Nat) (A : Ar.Arena) (R : List Ar.REnt) (O : Nat → Prop) (h : (Part.ref24 g A.room A.used A.peak R).P w O) (hok : Ar.Ok A) (hR : R.map Ar.REnt.it = A.its) (n : Nat) (hn : R.length ≤ n) (hn4 : n ≤ 10000) (id : Nat) (hid : id < 4294967296) (z : Int) (hz : -9223372036854775808 ≤ z ∧ z ≤ 9223372036854775807) :
    Calls Tryz.prog 30 #[.pointer (some ⟨g, 0, none⟩), .int .u32 (id : Nat), .int .i64 z] w (Ref24Post w g O (Ar.takeE A id z) (Ar.takeA A id z) (n + 1)) := by
  by_cases hz0 : z < 0
  · have hE : Ar.takeE A id z = 1 := by rw [Ar.takeE, if_pos hz0]
    have hA : Ar.takeA A id z = A := by rw [Ar.takeA, hE, if_neg (by decide)]
    rw [hE, hA]
    have HF : Hid (Ref24Post w g O 1 A (n + 1) (.returned (.int .i64 1)) w) := ref24_same h hR (by omega) (Touch.refl No w)
    clear h hok hR hn hE hA
    go_enter Tryz.func30, Tryz.ntmps30
    go_wp2
    go_ret
    exact HF.out
  obtain ⟨b, rfl⟩ : ∃ b : Nat, z = (b : Nat) := ⟨z.toNat, by omega⟩
  clear hz0
  have hids : ∀ e ∈ R, e.id < 4294967296 := fun e he => hok.ids e.it (by rw [← hR]; exact List.mem_map_of_mem he)
  have hsome := takeE_cases A R hok hR id
  obtain ⟨a, c, A1, A2, A3, hat, p1, p2, p3, d12, d13, d23, o1, o2, o3⟩ := ref24_at h
  have C := Lib.hid (refFind_any hat (by omega) hids id hid)
  have HP := Lib.hid h
  cases hi : Ar.isAt R id with
  | true =>
    have hE : Ar.takeE A id (b : Nat) = 8 := by rw [Ar.takeE, if_neg (by omega), hsome, hi, if_pos rfl]
    have hA : Ar.takeA A id (b : Nat) = A := by rw [Ar.takeA, hE, if_neg (by decide)]
    rw [hE, hA]
    rw [hi] at C
    have HF : Hid (∀ w', Touch No w w' → Ref24Post w g O 8 A (n + 1) (.returned (.int .i64 8)) w') := fun w' t => ref24_same h hR (by omega) t
    obtain ⟨p, hp⟩ : ∃ p, Ar.place R id = p := ⟨_, rfl⟩
    rw [hp] at C
    clear h hok hR hn hE hA hids hsome hat p1 p2 p3 d12 d13 d23 o1 o2 o3 hi hp
    go_enter Tryz.func30, Tryz.ntmps30
    go_wp2_with fail
    refine C.out.mono ?_
    rintro e w1 ⟨rfl, t1⟩
    have T1 := Lib.hid t1
    clear t1
    go_wp2
    go_ret
    exact HF.out _ T1.out
  | false =>
    rw [hi] at C
    have hro := hok.room
    have hpk := hok.peak
    have hmx := hok.max
    obtain ⟨room, hroom⟩ : ∃ r, A.room = r := ⟨_, rfl⟩
    obtain ⟨used, hused⟩ : ∃ r, A.used = r := ⟨_, rfl⟩
    obtain ⟨peak, hpeak⟩ : ∃ r, A.peak = r := ⟨_, rfl⟩
    obtain ⟨p, hp⟩ : ∃ p, Ar.place R id = p := ⟨_, rfl⟩
    have hpn : p ≤ R.length := by rw [← hp]; exact Ar.place_le R id
    rw [hp] at C
    by_cases hfull : (b : Int) > (room : Int) - used
    · have hE : Ar.takeE A id (b : Nat) = 13 := by rw [Ar.takeE, if_neg (by omega), hsome, hi, if_neg (by decide), hroom, hused, if_pos hfull]
      have hA : Ar.takeA A id (b : Nat) = A := by rw [Ar.takeA, hE, if_neg (by decide)]
      rw [hE, hA]
      have HF : Hid (∀ w', Touch No w w' → Ref24Post w g O 13 A (n + 1) (.returned (.int .i64 13)) w') := fun w' t => ref24_same h hR (by omega) t
      have HK : Hid (∀ w', Touch No w w' → w'.cell? ⟨g, 0, none⟩ = some (.int .i64 (room : Nat)) ∧ w'.cell? ⟨g, 1, none⟩ = some (.int .i64 (used : Nat))) := fun w' t => ⟨by rw [← hroom]; exact (hat.no t).row.cell 0, by rw [← hused]; exact (hat.no t).row.cell 1⟩
      rw [hroom] at hro hmx
      rw [hused] at hpk
      have hur : used ≤ room := by omega
      have hr1 : (room : Int) ≤ 1048576 := by omega
      have hu1 : (used : Int) ≤ (room : Nat) := by omega
      have hwr : IntKind.i64.wrap ((room : Int) - (used : Int)) = (room : Int) - used := IntWalk.i64_in _ (by omega)
      have hfull' : (room : Int) - (used : Int) < (b : Int) := hfull
      clear h hok hR hn hE hA hids hsome hat p1 p2 p3 d12 d13 d23 o1 o2 o3 hi hp hfull
      go_enter Tryz.func30, Tryz.ntmps30
      go_wp2_with fail
      refine C.out.mono ?_
      rintro e w1 ⟨rfl, t1⟩
      have T1 := Lib.hid t1
      obtain ⟨k0, k1⟩ := HK.out w1 t1
      clear t1
      go_wp2
      go_quiet (fail)
      go_wp2
      go_ret
      exact HF.out _ (T1.out.drewN _)
    · have hE : Ar.takeE A id (b : Nat) = 0 := by rw [Ar.takeE, if_neg (by omega), hsome, hi, if_neg (by decide), hroom, hused, if_neg hfull]
      have hA : Ar.takeA A id (b : Nat) = ⟨room, used + b, Nat.max peak (used + b), A.puts + 1, Ar.put A.its id ⟨b, none⟩⟩ := by rw [Ar.takeA, hE, if_pos rfl, hroom, hused, hpeak]; rfl
      rw [hE, hA]
      rw [hroom, hused, hpeak] at h hat
      rw [hroom] at hro hmx
      rw [hused, hpeak] at hpk
      rw [hpeak] at hro
      have hnew := Ar.put_new id ⟨b, none⟩ ⟨id, b, [], none, 0, [], none, 0, false⟩ (by rw [hR]; exact hok.up) hi rfl
      rw [hR, hp] at hnew
      have Hnew := Lib.hid hnew
      have HPw := Lib.hid h
      obtain ⟨X, hX⟩ : ∃ X, R.length = X := ⟨_, rfl⟩
      obtain ⟨M, hM⟩ : ∃ M, X - p = M := ⟨_, rfl⟩
      obtain ⟨I, z0, hI⟩ := part24_is
      have HI := Lib.hid hI
      have HA := Lib.hid hat
      have hXc : X ≤ c := by
        obtain ⟨a', c', e1, hc, _⟩ := rows_cell hat.rows
        cases e1; rw [← hX]; exact hc
      have hcm : c ≤ maxLen := by
        obtain ⟨a', c', e1, _, hc, _⟩ := rows_cell hat.rows
        cases e1; exact hc
      have hrd : Rd w a (entCells R) := by
        obtain ⟨a', c', e1, _, _, hr⟩ := rows_cell hat.rows
        cases e1; exact hr
      have hhead : ∀ wx : World, (Instr.slice 158 (.slice a X c) none (some (.int .i64 (p : Nat))) none).run Tryz.prog wx = .ok (.slice a p c) wx := fun wx => run_headS Tryz.underlying158 HI.out.info a X c p .i64 (by omega) wx
      have hcut : ∀ wx : World, (Instr.slice 158 (.slice a X c) (some (.int .i64 (p : Nat))) none none).run Tryz.prog wx = .ok (.slice (cutAddrS a c p 5) M (c - p)) wx := fun wx => by
        have := run_cutS (s := 5) Tryz.underlying158 HI.out.info HI.out.size a X c p .i64 (by omega) wx
        rw [hM] at this; exact this
      have Hrow : Hid (Row w g 160 (refCells room used peak (.slice a X c))) := by
        show Row _ _ _ _
        rw [← hX]; exact hat.row
      have r1 : Hid (∀ w', Touch No w w' → Rd w' a (entCells (R.take p))) := fun w' t => by
        have := (hrd.no t).take (p * 5)
        rw [entCells_take] at this; exact this
      have r2 : Hid (∀ w', Touch No w w' → Rd w' (cutAddrS a c p 5) (entCells (R.drop p))) := fun w' t => by
        have := (hrd.no t).cutS (cap := c) (l := p) (s := 5) (by rw [entCells_length, hX]; exact Nat.mul_le_mul_right 5 hXc)
        rw [entCells_drop] at this; exact this
      have l1 : Hid ((entCells (R.take p)).length = p * 5) := by show _ = _; rw [entCells_length, List.length_take]; omega
      have l2 : Hid ((entCells (R.drop p)).length = M * 5) := by show _ = _; rw [entCells_length, List.length_drop]; omega
      have Hn : Hid (p + 1 + M ≤ 10001) := by show _ ≤ _; omega
      have HK : Hid (∀ w', Touch No w w' → w'.cell? ⟨g, 0, none⟩ = some (.int .i64 (room : Nat)) ∧ w'.cell? ⟨g, 1, none⟩ = some (.int .i64 (used : Nat)) ∧ w'.cell? ⟨g, 3, none⟩ = some (.slice a X c)) := fun w' t => by
        have h := Hrow.out.touch t (fun f => f)
        exact ⟨h.cell 0, h.cell 1, h.cell 3⟩
      have hur : used ≤ room := by omega
      have hr1 : (room : Int) ≤ 1048576 := by omega
      have hu1 : (used : Int) ≤ (room : Nat) := by omega
      have hpk1 : (peak : Int) ≤ (room : Nat) := by omega
      have hwr : IntKind.i64.wrap ((room : Int) - (used : Int)) = (room : Int) - used := IntWalk.i64_in _ (by omega)
      have hb1 : (b : Int) ≤ (room : Int) - used := by omega
      have hwr2 : IntKind.i64.wrap ((used : Int) + (b : Int)) = (used : Int) + b := IntWalk.i64_in _ (by omega)
      have hfull' : ¬ (room : Int) - (used : Int) < (b : Int) := hfull
      have HRn : Hid (R.length = X ∧ X ≤ n) := ⟨hX, by omega⟩
      have Hpx : Hid (p ≤ X) := by show _ ≤ _; omega
      have hgw := hat.row.lt
      clear h hok hR hn hE hA hids hsome hat p1 p2 p3 d12 d13 d23 o1 o2 o3 hi hp hfull hnew hX hM hI hXc hcm hrd hpn
      go_enter Tryz.func30, Tryz.ntmps30
      go_wp2_with fail
      refine C.out.mono ?_
      rintro e w1 ⟨rfl, t1⟩
      have T1 := Lib.hid t1
      obtain ⟨k0, k1, k3⟩ := HK.out w1 t1
      clear t1 C
      go_wp2
      go_quiet (fail)
      go_upto_region 8 with fail
      obtain ⟨w2, hw2⟩ : ∃ w2, w2 = w1.drewN nq := ⟨_, rfl⟩
      have t2 : Touch No w w2 := by rw [hw2]; exact T1.out.drewN nq
      rw [← hw2]
      have T2 := Lib.hid t2
      obtain ⟨k0, k1, k3⟩ := HK.out w2 t2
      have Td : Hid (Touch No w w2.drew) := t2.drew
      have k3d : ∀ ob, (w2.alloc ob).cell? ⟨g, 3, none⟩ = some (.slice a X c) := fun ob => (HK.out _ (T2.out.alloc ob)).2.2
      have Tl : Hid (∀ ob, Touch No w (w2.alloc ob).drew) := fun ob => (T2.out.alloc ob).drew
      clear hw2 t2 T1
      go_cut [] (fun wx => Hid (∃ (a5 : Option Addr) (c5 : Nat) (w5 : World), w5.ownsRow 0 169 5 (.slice a5 (p + 1 + M) c5) (p + 1 + M) (entCells (R.take p) ++ [.int .u32 (id : Nat), .int .i64 (b : Nat), .slice none 0 0, .slice none 0 0, .bool false] ++ entCells (R.drop p)) ∧ Touch No w w5 ∧ (∀ k, InBlock (.slice a5 (p + 1 + M) c5) k → w.heap.size ≤ k) ∧ wx = w5.setCell ⟨g, 3, none⟩ (.slice a5 (p + 1 + M) c5)))
      case first =>
        go_wp2_with fail
        go_region_law (first
          | (refine step_append_rows ?_ _ _ _ rfl 169 I z0 5 72 Tryz.underlying158 HI.out.info HI.out.zero HI.out.size HI.out.bytes (by rw [HI.out.cells]; rfl) (by decide) _ 0 [] (World.ownsRow_nil _ 0 _ 5) rfl a p c p (entCells (R.take p)) rfl l1.out (r1.out _ Td.out) (entCells_one _) (by omega) (by have := Hn.out; unfold maxLen; omega) (by have := Hn.out; omega) ?_; rfl; intro a3 c3 w3 o3 t3 b3; have O3 := Lib.hid (show w3.ownsRow 0 169 5 (.slice a3 p c3) p (entCells (R.take p)) from o3); have T3 := Lib.hid (Td.out.trans (t3.mono (fun k _ h => by cases h))); have B3 : Hid (∀ k, InBlock (.slice a3 p c3) k → w.heap.size ≤ k) := (fun k hk => (b3 k hk).elim (fun h => by cases h) (fun h => Nat.le_trans Td.out.size h)); obtain ⟨q0, q1, q3⟩ := HK.out _ T3.out; have q3d : ∀ ob, (w3.alloc ob).cell? ⟨g, 3, none⟩ = some (.slice a X c) := (fun ob => (HK.out _ (T3.out.alloc ob)).2.2); clear o3 t3 b3)
          | (refine step_append_rows ?_ _ _ _ rfl 169 I z0 5 72 Tryz.underlying158 HI.out.info HI.out.zero HI.out.size HI.out.bytes (by rw [HI.out.cells]; rfl) (by decide) _ 0 [] (World.ownsRow_nil _ 0 _ 5) rfl a p c p (entCells (R.take p)) rfl l1.out (r1.out _ (Tl.out _)) (entCells_one _) (by omega) (by have := Hn.out; unfold maxLen; omega) (by have := Hn.out; omega) ?_; rfl; intro a3 c3 w3 o3 t3 b3; have O3 := Lib.hid (show w3.ownsRow 0 169 5 (.slice a3 p c3) p (entCells (R.take p)) from o3); have T3l := Lib.hid (show Touch No (w2.alloc (.cells #[.int .u32 (id : Nat), .int .i64 (b : Nat), .slice none 0 0, .slice none 0 0, .bool false] 169)).drew w3 from t3.mono (fun k _ h => by cases h)); have T3b := Lib.hid ((Tl.out _).trans T3l.out); have B3 : Hid (∀ k, InBlock (.slice a3 p c3) k → w.heap.size ≤ k) := (fun k hk => (b3 k hk).elim (fun h => by cases h) (fun h => Nat.le_trans (Tl.out _).size h)); obtain ⟨q0, q1, q3⟩ := HK.out _ T3b.out; clear o3 t3 b3)
          | (refine step_append_row rfl _ _ _ rfl 169 I z0 5 72 Tryz.underlying158 HI.out.info HI.out.zero HI.out.size HI.out.bytes (by rw [HI.out.cells]; rfl) (by decide) _ p (entCells (R.take p)) (rowTouch O3.out ((Touch.refl No w3).alloc _) (fun _ _ f => f)) rfl w3.heap.size [.int .u32 (id : Nat), .int .i64 (b : Nat), .slice none 0 0, .slice none 0 0, .bool false] (Row.new w3 _ _) rfl rfl (by intro u hu; simp only [List.mem_cons, List.not_mem_nil, or_false] at hu; rcases hu with rfl | rfl | rfl | rfl | rfl <;> rfl) (by have := Hn.out; unfold maxLen; omega) (by have := Hn.out; omega) ?_; intro a4 c4 w4 o4 t4 b4; have O4 := Lib.hid o4; have T4 := Lib.hid ((T3.out.alloc _).then t4 (fun i hi hh => by have := B3.out i hh; omega)); have B4 : Hid (∀ k, InBlock (.slice a4 (p + 1) c4) k → w.heap.size ≤ k) := (fun k hk => (b4 k hk).elim (B3.out k) (fun h => Nat.le_trans (T3.out.alloc _).size h)); obtain ⟨q0, q1, q3⟩ := HK.out _ T4.out; clear o4 t4 b4)
          | (refine step_append_row rfl _ _ _ rfl 169 I z0 5 72 Tryz.underlying158 HI.out.info HI.out.zero HI.out.size HI.out.bytes (by rw [HI.out.cells]; rfl) (by decide) _ p (entCells (R.take p)) O3.out rfl w2.heap.size [.int .u32 (id : Nat), .int .i64 (b : Nat), .slice none 0 0, .slice none 0 0, .bool false] ((Row.new w2 169 #[.int .u32 (id : Nat), .int .i64 (b : Nat), .slice none 0 0, .slice none 0 0, .bool false]).touch ((Touch.refl No _).drew.trans T3l.out) (fun f => f)) rfl rfl (by intro u hu; simp only [List.mem_cons, List.not_mem_nil, or_false] at hu; rcases hu with rfl | rfl | rfl | rfl | rfl <;> rfl) (by have := Hn.out; unfold maxLen; omega) (by have := Hn.out; omega) ?_; intro a4 c4 w4 o4 t4 b4; have O4 := Lib.hid o4; have T4 := Lib.hid (T3b.out.then t4 (fun i hi hh => by have := B3.out i hh; omega)); have B4 : Hid (∀ k, InBlock (.slice a4 (p + 1) c4) k → w.heap.size ≤ k) := (fun k hk => (b4 k hk).elim (B3.out k) (fun h => Nat.le_trans T3b.out.size h)); obtain ⟨q0, q1, q3⟩ := HK.out _ T4.out; clear o4 t4 b4)
          | (refine step_append_rows ?_ _ _ _ rfl 169 I z0 5 72 Tryz.underlying158 HI.out.info HI.out.zero HI.out.size HI.out.bytes (by rw [HI.out.cells]; rfl) (by decide) _ (p + 1) _ O4.out rfl (cutAddrS a c p 5) M (c - p) (p + 1 + M) (entCells (R.drop p)) rfl l2.out (r2.out _ T4.out) (entCells_one _) (by omega) (by have := Hn.out; unfold maxLen; omega) (by have := Hn.out; omega) ?_; rfl; intro a5 c5 w5 o5 t5 b5; have O5 := Lib.hid o5; have T5 := Lib.hid (T4.out.then t5 (fun i hi hh => by have := B4.out i hh; omega)); have B5 : Hid (∀ k, InBlock (.slice a5 (p + 1 + M) c5) k → w.heap.size ≤ k) := (fun k hk => (b5 k hk).elim (B4.out k) (fun h => Nat.le_trans T4.out.size h)); obtain ⟨q0, q1, q3⟩ := HK.out _ T5.out; have q3f := (Hrow.out.touch T5.out (fun f => f)).soft 3; clear o5 t5 b5))
        all_goals
          have FIN : Hid (∃ (a6 : Option Addr) (c6 : Nat) (w6 : World), w6.ownsRow 0 169 5 (.slice a6 (p + 1 + M) c6) (p + 1 + M) (entCells (R.take p) ++ [.int .u32 (id : Nat), .int .i64 (b : Nat), .slice none 0 0, .slice none 0 0, .bool false] ++ entCells (R.drop p)) ∧ Touch No w w6 ∧ (∀ k, InBlock (.slice a6 (p + 1 + M) c6) k → w.heap.size ≤ k) ∧ w5.setCell ⟨g, 3, none⟩ (.slice a5 (p + 1 + M) c5) = w6.setCell ⟨g, 3, none⟩ (.slice a6 (p + 1 + M) c6)) := ⟨a5, c5, w5, O5.out, T5.out, B5.out, rfl⟩
          go_wp2_with fail
          go_meet
          exact FIN.out
      case rest =>
        obtain ⟨a5, c5, w5, o5, t5, b5, hw6⟩ := hcut.out
        have O5 := Lib.hid o5
        have T5 := Lib.hid t5
        have B5 := Lib.hid b5
        clear hcut o5 t5 b5 k0 k1 k3 k3d
        have R6 : Row wc g 160 (refCells room used peak (.slice a5 (p + 1 + M) c5)) := by
          rw [hw6]; exact (Hrow.out.touch T5.out (fun f => f)).setCell 3 _
        have t6 : Touch (fun k => k = g) w5 wc := by rw [hw6]; exact (Touch.refl (fun k => k = g) w5).setCell (p := ⟨g, 3, none⟩) (fun _ => rfl) _
        clear hw6
        have k1 : wc.cell? ⟨g, 1, none⟩ = some (.int .i64 (used : Nat)) := R6.cell 1
        have f1 := R6.soft 1
        have H6 := Lib.hid R6
        have T6 := Lib.hid t6
        clear R6 t6
        go_wp2_with fail
        obtain ⟨w7, hw7⟩ : ∃ w7, w7 = wc.setCell ⟨g, 1, none⟩ (.int .i64 ((used : Int) + (b : Int))) := ⟨_, rfl⟩
        have R7 : Row w7 g 160 (refCells room (used + b) peak (.slice a5 (p + 1 + M) c5)) := by
          rw [hw7]; exact H6.out.setCell 1 (.int .i64 ((used : Int) + (b : Int)))
        have t7 : Touch (fun k => k = g) w5 w7 := by rw [hw7]; exact T6.out.setCell (p := ⟨g, 1, none⟩) (fun _ => rfl) _
        rw [← hw7]
        clear hw7 k1 f1
        have k1 : w7.cell? ⟨g, 1, none⟩ = some (.int .i64 ((used : Int) + (b : Int))) := R7.cell 1
        have k2 : w7.cell? ⟨g, 2, none⟩ = some (.int .i64 (peak : Nat)) := R7.cell 2
        have f2 := R7.soft 2
        have H7 := Lib.hid R7
        have T7 := Lib.hid t7
        clear R7 t7
        go_still_tail 12, (by kernel_rfl)
        have HG : Hid (∀ q : Nat, q = Nat.max peak (used + b) → Ref24Post w g O 0 ⟨room, used + b, Nat.max peak (used + b), A.puts + 1, Ar.put A.its id ⟨b, none⟩⟩ (n + 1) (.returned (.int .i64 0)) ((w7.setCell ⟨g, 2, none⟩ (.int .i64 (q : Nat))).drew)) := fun q hq => by
          subst hq
          refine ⟨rfl, R.take p ++ ⟨id, b, [], none, 0, [], none, 0, false⟩ :: R.drop p, Hnew.out, ?_, ?_⟩
          · rw [List.length_append, List.length_cons, List.length_take, List.length_drop, HRn.out.1]
            have := HRn.out.2; have := Hpx.out; omega
          · refine (ref24_new HPw.out (T5.out.mono (fun _ _ f => f.elim)) (R' := R.take p ++ ⟨id, b, [], none, 0, [], none, 0, false⟩ :: R.drop p) (v := .slice a5 (p + 1 + M) c5) ?_ B5.out (fun e he => ?_) (H7.out.setCell 2 (.int .i64 ((Nat.max peak (used + b) : Nat) : Int))) (T7.out.setCell (p := ⟨g, 2, none⟩) (fun _ => rfl) _)).no (Touch.refl No _).drew
            · have hl : (R.take p ++ (⟨id, b, [], none, 0, [], none, 0, false⟩ : Ar.REnt) :: R.drop p).length = p + 1 + M := by
                have h1 := l1.out
                have h2 := l2.out
                rw [entCells_length] at h1 h2
                rw [List.length_append, List.length_cons]
                omega
              rw [hl, entCells_append]
              have := O5.out
              rw [List.append_assoc] at this
              exact this
            · rcases List.mem_append.1 he with he | he
              · exact Or.inl (List.mem_of_mem_take he)
              · rcases List.mem_cons.1 he with rfl | he
                · exact Or.inr ⟨rfl, rfl, rfl, rfl⟩
                · exact Or.inl (List.mem_of_mem_drop he)
        go_wp2_with fail
        all_goals
          go_ret
          first
            | exact HG.out (used + b) (by show _ = max peak (used + b); exact (Nat.max_eq_right (by omega)).symm)
            | exact HG.out peak (by show _ = max peak (used + b); exact (Nat.max_eq_left (by omega)).symm)
            | (have hmx : ((max peak (used + b) : Nat) : Int) = max (peak : Int) ((used : Int) + (b : Int)) := (by rw [Int.max_def, Nat.max_def]; split <;> split <;> omega)
               have hgo := HG.out (max peak (used + b)) rfl
               rw [hmx] at hgo
               exact hgo)
end Go.Proofs.YtnffigfafalocaaGreatDoor
