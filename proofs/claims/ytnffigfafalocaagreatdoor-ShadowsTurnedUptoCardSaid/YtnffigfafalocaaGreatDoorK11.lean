/-
  Package roots by its own text: find.
-/
import Derived.Test.YtnffigfafalocaaGreatDoorK10
namespace Go.Proofs.YtnffigfafalocaaGreatDoor
open Go Go.RowKit
set_option linter.unusedSimpArgs false

namespace Rt
def zero : Root := ⟨0, 0, 0⟩
/-- what a sector says: an error, whether there is a root, and which -/
def sayE (s : Dk.Sec) : Nat := if s.bad = 1 then 12 else if nought s.b = true then 0 else errOf s.b
def sayIs (s : Dk.Sec) : Bool := if s.bad = 1 then false else if nought s.b = true then false else decide (errOf s.b = 0)
def sayR (s : Dk.Sec) : Root := if sayIs s = true then rootOf s.b else zero
def findE (D : Dk.Disk) : Nat := if D.seen.length < 8 then 1 else if sayE (Dk.at_ D.seen 0) ≠ 0 then sayE (Dk.at_ D.seen 0) else if sayE (Dk.at_ D.seen 1) ≠ 0 then sayE (Dk.at_ D.seen 1) else if sayIs (Dk.at_ D.seen 0) = false ∧ sayIs (Dk.at_ D.seen 1) = false then 7 else 0
/-- is it the second one that holds? -/
def second (D : Dk.Disk) : Bool := !sayIs (Dk.at_ D.seen 0) || (sayIs (Dk.at_ D.seen 1) && decide ((sayR (Dk.at_ D.seen 0)).epoch < (sayR (Dk.at_ D.seen 1)).epoch))
def findR (D : Dk.Disk) : Root := if findE D = 0 then (if second D = true then sayR (Dk.at_ D.seen 1) else sayR (Dk.at_ D.seen 0)) else zero
def findN (D : Dk.Disk) : Nat := if findE D = 0 ∧ second D = false then 1 else 0
theorem root_ok {b : List Nat} (h : ∀ x ∈ b, x < 256) : (rootOf b).Ok := by
  unfold rootOf
  split
  · exact ⟨unfour_lt (fun x hx => h x (List.mem_of_mem_drop (List.mem_of_mem_take hx))), unfour_lt (fun x hx => h x (List.mem_of_mem_drop (List.mem_of_mem_take hx))), unfour_lt (fun x hx => h x (List.mem_of_mem_drop (List.mem_of_mem_take hx)))⟩
  · exact ⟨by decide, by decide, by decide⟩
theorem say_ok {s : Dk.Sec} (h : ∀ x ∈ s.b, x < 256) : (sayR s).Ok := by
  unfold sayR
  split
  · exact root_ok h
  · exact ⟨by decide, by decide, by decide⟩
end Rt

theorem len_nil (w : World) : Calls Tryz.prog 58 #[.pointer none] w fun e w' => e = .returned (.int .i64 0) ∧ w = w' := by
  go_enter Tryz.func58, Tryz.ntmps58
  go_wp2_with (go_at_call 56; refine (ask_not _ _ _ (.inl rfl)).mono ?_; rintro e w' ⟨rfl, rfl⟩)
  go_ret
  exact ⟨rfl, rfl⟩

/-- cells of two roots, and whether they are there -/
def rootC (r : Rt.Root) : List Value := [.int .u32 (r.epoch : Nat), .int .u32 (r.first : Nat), .int .u32 (r.bytes : Nat)]
def FindPost (w : World) (r : Rt.Root) (nx er : Nat) (e : Ending) (w' : World) : Prop :=
  e = .returned (.tuple #[.agg #[.int .u32 (r.epoch : Nat), .int .u32 (r.first : Nat), .int .u32 (r.bytes : Nat)], .int .i64 (nx : Nat), .int .i64 (er : Nat)]) ∧ Touch No w w'

/-- what find holds: its result, two roots, and whether they are there -/
structure Fb (w : World) (R : Nat) (A B : Rt.Root) (a b : Bool) : Prop where
  c : ∀ j, j < 3 → w.cell? ⟨R, j, none⟩ = some (.int .u32 0) ∧ w.frozen? ⟨R, j, none⟩ = false
  l : Row w (R + 1) 336 (rootC A ++ rootC B)
  i : Row w (R + 1 + 1) 337 [.bool a, .bool b]
theorem Fb.no {w w' : World} {R : Nat} {A B : Rt.Root} {a b : Bool} (h : Fb w R A B a b) (t : Touch No w w') : Fb w' R A B a b :=
  ⟨fun j hj => ⟨t.cell (id : No R → False) (h.c j hj).1, (t.frozen (lt_of_cell (h.c j hj).1) id j).trans (h.c j hj).2⟩, h.l.touch t id, h.i.touch t id⟩
/-- how far it is -/
def Far (D : Dk.Disk) (k : Nat) (A B : Rt.Root) (a b : Bool) : Prop :=
  (1 ≤ k → Rt.sayE (Dk.at_ D.seen 0) = 0 ∧ A = Rt.sayR (Dk.at_ D.seen 0) ∧ a = Rt.sayIs (Dk.at_ D.seen 0)) ∧ (2 ≤ k → Rt.sayE (Dk.at_ D.seen 1) = 0 ∧ B = Rt.sayR (Dk.at_ D.seen 1) ∧ b = Rt.sayIs (Dk.at_ D.seen 1)) ∧ (k = 0 → A = Rt.zero ∧ a = false) ∧ (k ≤ 1 → B = Rt.zero ∧ b = false)
theorem far_err {D : Dk.Disk} {k : Nat} {A B : Rt.Root} {a b : Bool} (h8 : ¬ D.seen.length < 8) (hf : Far D k A B a b) (hk : k < 2) (he : Rt.sayE (Dk.at_ D.seen k) ≠ 0) : Rt.findE D = Rt.sayE (Dk.at_ D.seen k) ∧ Rt.findR D = Rt.zero ∧ Rt.findN D = 0 := by
  have hE : Rt.findE D = Rt.sayE (Dk.at_ D.seen k) := by
    have : k = 0 ∨ k = 1 := by omega
    rcases this with rfl | rfl
    · rw [Rt.findE, if_neg h8, if_pos he]
    · have h0 := (hf.1 (by decide)).1
      rw [Rt.findE, if_neg h8, if_neg (fun h => h h0), if_pos he]
  exact ⟨hE, by rw [Rt.findR, if_neg (by rw [hE]; exact he)], by rw [Rt.findN, if_neg (fun h => he (by rw [← hE]; exact h.1))]⟩
theorem far_next {D : Dk.Disk} {k : Nat} {A B : Rt.Root} {a b : Bool} (hf : Far D k A B a b) (hk : k < 2) (he : Rt.sayE (Dk.at_ D.seen k) = 0) : Far D (k + 1) (if k = 0 then Rt.sayR (Dk.at_ D.seen k) else A) (if k = 0 then B else Rt.sayR (Dk.at_ D.seen k)) (if k = 0 then Rt.sayIs (Dk.at_ D.seen k) else a) (if k = 0 then b else Rt.sayIs (Dk.at_ D.seen k)) := by
  have : k = 0 ∨ k = 1 := by omega
  rcases this with rfl | rfl
  · refine ⟨fun _ => ⟨he, rfl, rfl⟩, fun h => by omega, fun h => by omega, fun _ => hf.2.2.2 (by decide)⟩
  · refine ⟨fun _ => hf.1 (by decide), fun _ => ⟨he, rfl, rfl⟩, fun h => by omega, fun h => by omega⟩
theorem far_end {D : Dk.Disk} {A B : Rt.Root} {a b : Bool} (h8 : ¬ D.seen.length < 8) (hf : Far D 2 A B a b) :
    Rt.findE D = (if a = false ∧ b = false then 7 else 0) ∧ Rt.findR D = (if a = false ∧ b = false then Rt.zero else if (!a || (b && decide (A.epoch < B.epoch))) = true then B else A) ∧ Rt.findN D = (if a = false ∧ b = false then 0 else if (!a || (b && decide (A.epoch < B.epoch))) = true then 0 else 1) ∧ (a = false → A = Rt.zero) := by
  obtain ⟨h0, hA, ha⟩ := hf.1 (by decide)
  obtain ⟨h1, hB, hb⟩ := hf.2.1 (by decide)
  have hE : Rt.findE D = (if a = false ∧ b = false then 7 else 0) := by
    rw [Rt.findE, if_neg h8, if_neg (fun h => h h0), if_neg (fun h => h h1), ← ha, ← hb]
  have hS : Rt.second D = (!a || (b && decide (A.epoch < B.epoch))) := by rw [Rt.second, ← ha, ← hb, ← hA, ← hB]
  refine ⟨hE, ?_, ?_, fun h => ?_⟩
  · rw [Rt.findR, hE, hS, ← hA, ← hB]
    by_cases h : a = false ∧ b = false
    · rw [if_pos h, if_pos h, if_neg (by decide)]
    · rw [if_neg h, if_neg h, if_pos rfl]
  · rw [Rt.findN, hE, hS]
    by_cases h : a = false ∧ b = false
    · rw [if_pos h, if_pos h, if_neg (fun h => absurd h.1 (by decide))]
    · rw [if_neg h, if_neg h]
      cases hx : (!a || (b && decide (A.epoch < B.epoch))) <;> simp
  · rw [hA, Rt.sayR, ← ha, h]; rfl
set_option maxRecDepth 100000 in
set_option maxHeartbeats 8000000 in
theorem find_any (w : World) (d : Nat) (D : Dk.Disk) (O : Nat → Prop) (h : DiskAt w d D O) :
    Calls Tryz.prog 145 #[.pointer (some ⟨d, 0, none⟩)] w (FindPost w (Rt.findR D) (Rt.findN D) (Rt.findE D)) := by
  have H := Lib.hid h
  have hpos := h.ok.pos
  have htop := h.ok.top
  have hsec : Hid (∀ k, k < D.seen.length → (Dk.at_ D.seen k).Ok) := fun k hk => h.ok.seen _ (Dk.at_mem hk)
  obtain ⟨q, hq⟩ : ∃ q, D.seen.length = q := ⟨_, rfl⟩
  have HLen : Hid (∀ wx, Touch No w wx → Calls Tryz.prog 58 #[.pointer (some ⟨d, 0, none⟩)] wx fun e w' => e = .returned (.int .i64 (q : Nat)) ∧ wx = w') := fun wx t => by
    have := len_in wx d D O (h.no t)
    rwa [hq] at this
  rw [hq] at hpos htop
  have Hq := Lib.hid hq
  clear h hq
  by_cases h8 : q < 8
  · have hE : Rt.findE D = 1 := by rw [Rt.findE, if_pos (by rw [Hq.out]; exact h8)]
    have hR : Rt.findR D = Rt.zero := by rw [Rt.findR, if_neg (by rw [hE]; decide)]
    have hN : Rt.findN D = 0 := by rw [Rt.findN, if_neg (fun h => by rw [hE] at h; exact absurd h.1 (by decide))]
    rw [hE, hR, hN]
    have h8' : (q : Int) < 8 := by omega
    have h0 : ((q : Int) == 0) = false := by simp; omega
    clear hE hR hN h8
    go_enter Tryz.func145, Tryz.ntmps145
    go_wp2_with fail
    refine (HLen.out _ ((Touch.refl No w).alloc _)).mono ?_
    rintro e w' ⟨rfl, rfl⟩
    go_wp2
    exact bodyPost_ret (v := .tuple #[.agg #[.int .u32 0, .int .u32 0, .int .u32 0], .int .i64 0, .int .i64 1]) (by simp [results, Tryz.results145, go_sem]) rfl ⟨rfl, (Touch.refl No w).alloc _⟩
  · have h8' : ¬ (q : Int) < 8 := by omega
    have h0 : ((q : Int) == 0) = false := by simp; omega
    have hq2 : Hid (∀ k, k < 2 → k < D.seen.length) := fun k hk => by rw [Hq.out]; omega
    have hE8 : Hid (¬ D.seen.length < 8) := by show ¬ _; rw [Hq.out]; exact h8
    clear h8
    go_enter Tryz.func145, Tryz.ntmps145
    go_wp2_with fail
    refine (HLen.out _ ((Touch.refl No w).alloc _)).mono ?_
    rintro e w' ⟨rfl, rfl⟩
    go_wp2
    obtain ⟨R, hR⟩ : ∃ R, R = w.heap.size := ⟨_, rfl⟩
    obtain ⟨W, hW⟩ : ∃ W, W = ((w.alloc (.cells #[.int .u32 0, .int .u32 0, .int .u32 0] 116)).alloc (.cells #[.int .u32 0, .int .u32 0, .int .u32 0, .int .u32 0, .int .u32 0, .int .u32 0] 336)).alloc (.cells #[.bool false, .bool false] 337) := ⟨_, rfl⟩
    have tW : Touch No w W := by rw [hW]; exact (((Touch.refl No w).alloc _).alloc _).alloc _
    have hF : Fb W R Rt.zero Rt.zero false false := by
      have a1 := (Row.new w 116 #[.int .u32 0, .int .u32 0, .int .u32 0])
      have a2 := (Row.new (w.alloc (.cells #[.int .u32 0, .int .u32 0, .int .u32 0] 116)) 336 #[.int .u32 0, .int .u32 0, .int .u32 0, .int .u32 0, .int .u32 0, .int .u32 0])
      have a3 := (Row.new ((w.alloc (.cells #[.int .u32 0, .int .u32 0, .int .u32 0] 116)).alloc (.cells #[.int .u32 0, .int .u32 0, .int .u32 0, .int .u32 0, .int .u32 0, .int .u32 0] 336)) 337 #[.bool false, .bool false])
      have e1 : Touch No (w.alloc (.cells #[.int .u32 0, .int .u32 0, .int .u32 0] 116)) ((w.alloc (.cells #[.int .u32 0, .int .u32 0, .int .u32 0] 116)).alloc (.cells #[.int .u32 0, .int .u32 0, .int .u32 0, .int .u32 0, .int .u32 0, .int .u32 0] 336)) := (Touch.refl No _).alloc _
      have e2 : Touch No ((w.alloc (.cells #[.int .u32 0, .int .u32 0, .int .u32 0] 116)).alloc (.cells #[.int .u32 0, .int .u32 0, .int .u32 0, .int .u32 0, .int .u32 0, .int .u32 0] 336)) (((w.alloc (.cells #[.int .u32 0, .int .u32 0, .int .u32 0] 116)).alloc (.cells #[.int .u32 0, .int .u32 0, .int .u32 0, .int .u32 0, .int .u32 0, .int .u32 0] 336)).alloc (.cells #[.bool false, .bool false] 337)) := (Touch.refl No _).alloc _
      have b1 := (a1.touch e1 id).touch e2 id
      have b2 := a2.touch e2 id
      rw [size_alloc] at b2
      rw [size_alloc, size_alloc] at a3
      rw [hW, hR]
      refine ⟨fun j hj => ⟨?_, b1.soft j⟩, b2, a3⟩
      rw [b1.cell]
      match j, hj with
      | 0, _ => rfl
      | 1, _ => rfl
      | 2, _ => rfl
    have hRw : w.heap.size ≤ R := by omega
    rw [← hR, ← hW]
    have HRR := Lib.hid hRw
    have HF := Lib.hid hF
    have HT := Lib.hid tW
    clear hR hW tW hF hRw
    go_loopg [21] 2 (fun g s21 wr => ∃ (k : Nat) (A B : Rt.Root) (a b : Bool), k + g = 2 ∧ s21 = .int .i64 ((k : Nat) : Int) ∧ Hid (Fb wr R A B a b) ∧ Hid (Touch No w wr) ∧ Hid (Far D k A B a b))
    case atStart => exact ⟨0, _, _, _, _, rfl, rfl, HF.out, HT.out, ⟨fun h => by omega, fun h => by omega, fun _ => ⟨rfl, rfl⟩, fun _ => ⟨rfl, rfl⟩⟩⟩
    case round =>
      clear HF HT
      obtain ⟨k, A, B, a, b, hkg, rfl, F, T, FR⟩ := hrel
      cases gk with
      | zero =>
        obtain rfl : k = 2 := by omega
        have fe := far_end hE8.out FR.out
        have l0 : wr.cell? ⟨R + 1, 0, none⟩ = some (.int .u32 (A.epoch : Nat)) := F.out.l.cell 0
        have l1 : wr.cell? ⟨R + 1, 1, none⟩ = some (.int .u32 (A.first : Nat)) := F.out.l.cell 1
        have l2 : wr.cell? ⟨R + 1, 2, none⟩ = some (.int .u32 (A.bytes : Nat)) := F.out.l.cell 2
        have l3 : wr.cell? ⟨R + 1, 3, none⟩ = some (.int .u32 (B.epoch : Nat)) := F.out.l.cell 3
        have l4 : wr.cell? ⟨R + 1, 4, none⟩ = some (.int .u32 (B.first : Nat)) := F.out.l.cell 4
        have l5 : wr.cell? ⟨R + 1, 5, none⟩ = some (.int .u32 (B.bytes : Nat)) := F.out.l.cell 5
        have i0 : wr.cell? ⟨R + 1 + 1, 0, none⟩ = some (.bool a) := F.out.i.cell 0
        have i1 : wr.cell? ⟨R + 1 + 1, 1, none⟩ = some (.bool b) := F.out.i.cell 1
        have r0 := (F.out.c 0 (by decide)).1
        have r1 := (F.out.c 1 (by decide)).1
        have r2 := (F.out.c 2 (by decide)).1
        have f0 := (F.out.c 0 (by decide)).2
        have f1 := (F.out.c 1 (by decide)).2
        have f2 := (F.out.c 2 (by decide)).2
        have tfin : Hid (∀ wx, Touch No w wx → ∀ v0 v1 v2 : Value, Touch No w (((wx.setCell ⟨R, 0, none⟩ v0).setCell ⟨R, 1, none⟩ v1).setCell ⟨R, 2, none⟩ v2)) := fun wx t v0 v1 v2 => by
          have hn : ∀ o' : Nat, (⟨R, o', none⟩ : Addr).block < w.heap.size → No (⟨R, o', none⟩ : Addr).block := fun o' h => absurd (show R < w.heap.size from h) (by have := HRR.out; omega)
          exact ((t.setCell (p := ⟨R, 0, none⟩) (hn 0) v0).setCell (p := ⟨R, 1, none⟩) (hn 1) v1).setCell (p := ⟨R, 2, none⟩) (hn 2) v2
        obtain ⟨hE, hR, hN, hz⟩ := fe
        have HEE := Lib.hid hE
        have HRE := Lib.hid hR
        have HNE := Lib.hid hN
        have Hz := Lib.hid hz
        clear hE hR hN hz
        obtain ⟨ae, af, ab⟩ := A
        obtain ⟨be, bf, bb⟩ := B
        cases a with
        | false =>
          have h0 := Hz.out rfl
          obtain ⟨rfl, rfl, rfl⟩ : ae = 0 ∧ af = 0 ∧ ab = 0 := by cases h0; exact ⟨rfl, rfl, rfl⟩
          clear h0
          cases b with
          | false =>
            go_wp2
            exact bodyPost_ret (v := .tuple #[.agg #[.int .u32 0, .int .u32 0, .int .u32 0], .int .i64 0, .int .i64 7]) (by simp [results, Tryz.results145, go_sem, r0, r1, r2]) rfl ⟨by rw [HEE.out, HRE.out, HNE.out]; rfl, tfin.out _ T.out _ _ _⟩
          | true =>
            go_wp2
            exact bodyPost_ret (v := .tuple #[.agg #[.int .u32 (be : Nat), .int .u32 (bf : Nat), .int .u32 (bb : Nat)], .int .i64 0, .int .i64 0]) (by simp [results, Tryz.results145, go_sem, r0, r1, r2]) rfl ⟨by rw [HEE.out, HRE.out, HNE.out]; rfl, tfin.out _ T.out _ _ _⟩
        | true =>
          clear Hz
          cases b with
          | false =>
            go_wp2
            exact bodyPost_ret (v := .tuple #[.agg #[.int .u32 (ae : Nat), .int .u32 (af : Nat), .int .u32 (ab : Nat)], .int .i64 1, .int .i64 0]) (by simp [results, Tryz.results145, go_sem, r0, r1, r2]) rfl ⟨by rw [HEE.out, HRE.out, HNE.out]; rfl, tfin.out _ T.out _ _ _⟩
          | true =>
            by_cases hep : ae < be
            · have hep' : (ae : Int) < (be : Nat) := by omega
              have hd : (!true || (true && decide (ae < be))) = true := by simp [hep]
              have Hd := Lib.hid hd
              clear hd hep
              go_wp2
              exact bodyPost_ret (v := .tuple #[.agg #[.int .u32 (be : Nat), .int .u32 (bf : Nat), .int .u32 (bb : Nat)], .int .i64 0, .int .i64 0]) (by simp [results, Tryz.results145, go_sem, r0, r1, r2]) rfl ⟨by rw [HEE.out, HRE.out, HNE.out, Hd.out]; rfl, tfin.out _ T.out _ _ _⟩
            · have hep' : ¬ (ae : Int) < (be : Nat) := by omega
              have hd : (!true || (true && decide (ae < be))) = false := by simp; omega
              have Hd := Lib.hid hd
              clear hd hep
              go_wp2
              exact bodyPost_ret (v := .tuple #[.agg #[.int .u32 (ae : Nat), .int .u32 (af : Nat), .int .u32 (ab : Nat)], .int .i64 1, .int .i64 0]) (by simp [results, Tryz.results145, go_sem, r0, r1, r2]) rfl ⟨by rw [HEE.out, HRE.out, HNE.out, Hd.out]; rfl, tfin.out _ T.out _ _ _⟩
      | succ g =>
        have hk : k = 0 ∨ k = 1 := by omega
        rcases hk with rfl | rfl
        · have hkD := hq2.out 0 (by decide)
          have hse := hsec.out 0 hkD
          have HkD := Lib.hid hkD
          have Hse := Lib.hid hse
          obtain ⟨s, hs⟩ : ∃ s, s = Dk.at_ D.seen 0 := ⟨_, rfl⟩
          have HS := Lib.hid hs
          have r0 := (F.out.c 0 (by decide)).1
          have r1 := (F.out.c 1 (by decide)).1
          have r2 := (F.out.c 2 (by decide)).1
          have f0 := (F.out.c 0 (by decide)).2
          have f1 := (F.out.c 1 (by decide)).2
          have f2 := (F.out.c 2 (by decide)).2
          have HRc : Hid (∀ wx, Touch No wr wx → Fb wx R A B a b) := fun wx t => F.out.no t
          have tfin : Hid (∀ wx, Touch No w wx → ∀ v0 v1 v2 : Value, Touch No w (((wx.setCell ⟨R, 0, none⟩ v0).setCell ⟨R, 1, none⟩ v1).setCell ⟨R, 2, none⟩ v2)) := fun wx t v0 v1 v2 => by
            have hn : ∀ o' : Nat, (⟨R, o', none⟩ : Addr).block < w.heap.size → No (⟨R, o', none⟩ : Addr).block := fun o' h => absurd (show R < w.heap.size from h) (by have := HRR.out; omega)
            exact ((t.setCell (p := ⟨R, 0, none⟩) (hn 0) v0).setCell (p := ⟨R, 1, none⟩) (hn 1) v1).setCell (p := ⟨R, 2, none⟩) (hn 2) v2
          clear hkD hse hs
          by_cases hbad : s.bad = 1
          · have hx : Hid (Rt.sayE (Dk.at_ D.seen 0) = 12) := by show _ = _; rw [← HS.out, Rt.sayE, if_pos hbad]
            have hfin := far_err hE8.out FR.out (by decide) (by rw [hx.out]; decide)
            rw [hx.out] at hfin
            have Hfin := Lib.hid hfin
            have Hbad := Lib.hid hbad
            clear hfin hbad
            go_wp2_with fail
            refine (read_lost wr d D O 0 (H.out.no T.out) HkD.out (by rw [← HS.out]; exact Hbad.out)).mono ?_
            rintro e w' ⟨rfl, rfl⟩
            go_wp2
            exact bodyPost_ret (v := .tuple #[.agg #[.int .u32 0, .int .u32 0, .int .u32 0], .int .i64 0, .int .i64 12]) (by simp [results, Tryz.results145, go_sem, r0, r1, r2]) rfl ⟨by rw [Hfin.out.1, Hfin.out.2.1, Hfin.out.2.2]; rfl, tfin.out _ T.out _ _ _⟩
          · have hb0 : Hid (s.bad = 0) := by show _ = _; have := Hse.out.bad; rw [← HS.out] at this; omega
            have Hnb := Lib.hid hbad
            have hbytes : Hid (s.b.length = 64) := by show _ = _; rw [HS.out]; exact Hse.out.b.len
            have hblt : Hid (∀ x ∈ s.b, x < 256) := by show ∀ x ∈ s.b, x < 256; rw [HS.out]; exact Hse.out.b.lt
            clear hbad
            cases hno : Rt.nought s.b with
            | true =>
              have hx : Hid (Rt.sayE (Dk.at_ D.seen 0) = 0 ∧ Rt.sayIs (Dk.at_ D.seen 0) = false ∧ Rt.sayR (Dk.at_ D.seen 0) = Rt.zero) := by
                show _ ∧ _
                have h2 : Rt.sayIs s = false := by rw [Rt.sayIs, if_neg Hnb.out, if_pos hno]
                rw [← HS.out]
                exact ⟨by rw [Rt.sayE, if_neg Hnb.out, if_pos hno], h2, by rw [Rt.sayR, h2]; rfl⟩
              have hnx := far_next FR.out (by decide) hx.out.1
              rw [hx.out.2.1, hx.out.2.2] at hnx
              have Hnx : Hid (Far D (0 + 1) A B a b) := by
                show Far _ _ _ _ _ _
                have h3 := FR.out.2.2.1 rfl
                rw [h3.1, h3.2]
                skip
                exact (by simpa [h3.1, h3.2] using hnx)
              have Hno := Lib.hid hno
              clear hnx hno
              go_wp2_with fail
              refine (read_in wr d D O 0 (H.out.no T.out) HkD.out (by rw [← HS.out]; exact hb0.out)).mono ?_
              rw [← HS.out]
              rintro e w3 ⟨gb, rfl, _, R3, t3⟩
              have HR3 := Lib.hid R3
              have T3 := Lib.hid t3
              clear R3 t3
              go_wp2_with fail
              refine (nought_any w3 _ 64 64 _ hbytes.out (by decide) HR3.out).mono ?_
              rintro e w' ⟨rfl, rfl⟩
              rw [Hno.out]
              go_wp2
              go_roundg g
              case measure => omega
              case rel => exact ⟨0 + 1, A, B, a, b, by omega, by go_num, HRc.out _ T3.out, T.out.trans T3.out, Hnx.out⟩
            | false =>
              have Hno := Lib.hid hno
              clear hno
              obtain ⟨X, hX⟩ : ∃ X, X = Rt.rootOf s.b := ⟨_, rfl⟩
              obtain ⟨er, her⟩ : ∃ er, er = Rt.errOf s.b := ⟨_, rfl⟩
              have HX := Lib.hid hX
              have Her := Lib.hid her
              clear hX her
              go_wp2_with fail
              refine (read_in wr d D O 0 (H.out.no T.out) HkD.out (by rw [← HS.out]; exact hb0.out)).mono ?_
              rw [← HS.out]
              rintro e w3 ⟨gb, rfl, _, R3, t3⟩
              have HR3 := Lib.hid R3
              have T3 := Lib.hid t3
              clear R3 t3
              go_wp2_with fail
              refine (nought_any w3 _ 64 64 _ hbytes.out (by decide) HR3.out).mono ?_
              rintro e w' ⟨rfl, rfl⟩
              rw [Hno.out]
              go_wp2_with fail
              refine (rootGet_any w3 _ 64 64 s.b hbytes.out (Nat.le_refl _) (by decide) HR3.out hblt.out).mono ?_
              rw [← HX.out, ← Her.out]
              rintro e w4 ⟨rfl, t4⟩
              have T34 := Lib.hid (T3.out.trans t4)
              have F4 := Lib.hid (HRc.out w4 (T3.out.trans t4))
              clear t4 r0 r1 r2 f0 f1 f2
              have l0 := F4.out.l.cell 0
              have l1 := F4.out.l.cell 1
              have l2 := F4.out.l.cell 2
              have m0 := F4.out.l.soft 0
              have m1 := F4.out.l.soft 1
              have m2 := F4.out.l.soft 2
              have l0' : w4.cell? ⟨R + 1, 0, none⟩ = some (.int .u32 (A.epoch : Nat)) := l0
              have l1' : w4.cell? ⟨R + 1, 1, none⟩ = some (.int .u32 (A.first : Nat)) := l1
              have l2' : w4.cell? ⟨R + 1, 2, none⟩ = some (.int .u32 (A.bytes : Nat)) := l2
              clear l0 l1 l2
              obtain ⟨w5, hw5⟩ : ∃ w5, w5 = ((w4.setCell ⟨R + 1, 0, none⟩ (.int .u32 (X.epoch : Nat))).setCell ⟨R + 1, 1, none⟩ (.int .u32 (X.first : Nat))).setCell ⟨R + 1, 2, none⟩ (.int .u32 (X.bytes : Nat)) := ⟨_, rfl⟩
              have t45 : Touch (One (R + 1)) w4 w5 := by
                rw [hw5]
                exact (((Touch.refl (One (R + 1)) w4).setCell (p := ⟨R + 1, 0, none⟩) (fun _ => rfl) _).setCell (p := ⟨R + 1, 1, none⟩) (fun _ => rfl) _).setCell (p := ⟨R + 1, 2, none⟩) (fun _ => rfl) _
              have F5 : Hid (Fb w5 R X B a b) := by
                refine ⟨fun j hj => ?_, ?_, F4.out.i.touch t45 (fun e => by unfold One at e; omega)⟩
                · have h1 := F4.out.c j hj
                  exact ⟨t45.cell (fun e => by unfold One at e; omega) h1.1, (t45.frozen (lt_of_cell h1.1) (fun e => by unfold One at e; omega) j).trans h1.2⟩
                · rw [hw5]
                  exact ((F4.out.l.setCell 0 _).setCell 1 _).setCell 2 _
              have T5 := Lib.hid ((T.out.trans T34.out).then t45 (fun i hi e => by
                have h2 : i = R + 1 := e
                have h3 := HRR.out
                omega))
              have Hw5 := Lib.hid hw5
              clear hw5 t45
              by_cases h0 : er = 0
              · have hx : Hid (Rt.sayE (Dk.at_ D.seen 0) = 0 ∧ Rt.sayIs (Dk.at_ D.seen 0) = true ∧ Rt.sayR (Dk.at_ D.seen 0) = X) := by
                  show _ ∧ _
                  have hz : Rt.errOf s.b = 0 := by rw [← Her.out]; exact h0
                  have h2 : Rt.sayIs s = true := by rw [Rt.sayIs, if_neg Hnb.out, if_neg (by rw [Hno.out]; decide), hz]; rfl
                  rw [← HS.out]
                  exact ⟨by rw [Rt.sayE, if_neg Hnb.out, if_neg (by rw [Hno.out]; decide), hz], h2, by rw [Rt.sayR, h2, if_pos rfl, HX.out]⟩
                have hnx := far_next FR.out (by decide) hx.out.1
                rw [hx.out.2.1, hx.out.2.2] at hnx
                have Hnx : Hid (Far D (0 + 1) X B true b) := hnx
                clear hnx
                subst h0
                have i0 : w5.cell? ⟨R + 1 + 1, 0, none⟩ = some (.bool a) := F5.out.i.cell 0
                have j0 := F5.out.i.soft 0
                rw [Hw5.out] at i0 j0
                go_wp2
                go_roundg g
                case measure => omega
                case rel =>
                  refine ⟨0 + 1, X, B, true, b, by omega, by go_num, ?_, ?_, Hnx.out⟩
                  all_goals rw [← Hw5.out]
                  · have ts : Touch (One (R + 1 + 1)) w5 (w5.setCell ⟨R + 1 + 1, 0, none⟩ (.bool true)) := (Touch.refl (One (R + 1 + 1)) w5).setCell (p := ⟨R + 1 + 1, 0, none⟩) (fun _ => rfl) _
                    refine ⟨fun j hj => ?_, F5.out.l.touch ts (fun e => by unfold One at e; omega), F5.out.i.setCell 0 _⟩
                    have h1 := F5.out.c j hj
                    exact ⟨ts.cell (fun e => by unfold One at e; omega) h1.1, (ts.frozen (lt_of_cell h1.1) (fun e => by unfold One at e; omega) j).trans h1.2⟩
                  · exact T5.out.setCell (p := ⟨R + 1 + 1, 0, none⟩) (fun h => absurd (show R + 1 + 1 < w.heap.size from h) (by have := HRR.out; omega)) _
              · have hx : Hid (Rt.sayE (Dk.at_ D.seen 0) = er) := by
                  show _ = _
                  rw [← HS.out, Rt.sayE, if_neg Hnb.out, if_neg (by rw [Hno.out]; decide), Her.out]
                have hfin := far_err hE8.out FR.out (by decide) (by rw [hx.out]; exact h0)
                rw [hx.out] at hfin
                have hne : ((er : Int) != 0) = true := by simp; omega
                have Hfin := Lib.hid (show Rt.findE D = er ∧ Rt.findR D = Rt.zero ∧ Rt.findN D = 0 from hfin)
                have r0 := (F5.out.c 0 (by decide)).1
                have r1 := (F5.out.c 1 (by decide)).1
                have r2 := (F5.out.c 2 (by decide)).1
                have f0 := (F5.out.c 0 (by decide)).2
                have f1 := (F5.out.c 1 (by decide)).2
                have f2 := (F5.out.c 2 (by decide)).2
                have tq := fun v0 v1 v2 => Lib.hid (tfin.out _ T5.out v0 v1 v2)
                rw [Hw5.out] at r0 r1 r2 f0 f1 f2
                have Htq := Lib.hid tq
                clear tq hfin h0
                go_wp2
                refine bodyPost_ret (v := .tuple #[.agg #[.int .u32 0, .int .u32 0, .int .u32 0], .int .i64 0, .int .i64 (er : Nat)]) (by simp [results, Tryz.results145, go_sem, r0, r1, r2]) rfl ⟨by rw [Hfin.out.1, Hfin.out.2.1, Hfin.out.2.2]; rfl, ?_⟩
                have := (Htq.out (.int .u32 0) (.int .u32 0) (.int .u32 0)).out
                rw [Hw5.out] at this
                exact this
        · have hkD := hq2.out 1 (by decide)
          have hse := hsec.out 1 hkD
          have HkD := Lib.hid hkD
          have Hse := Lib.hid hse
          obtain ⟨s, hs⟩ : ∃ s, s = Dk.at_ D.seen 1 := ⟨_, rfl⟩
          have HS := Lib.hid hs
          have r0 := (F.out.c 0 (by decide)).1
          have r1 := (F.out.c 1 (by decide)).1
          have r2 := (F.out.c 2 (by decide)).1
          have f0 := (F.out.c 0 (by decide)).2
          have f1 := (F.out.c 1 (by decide)).2
          have f2 := (F.out.c 2 (by decide)).2
          have HRc : Hid (∀ wx, Touch No wr wx → Fb wx R A B a b) := fun wx t => F.out.no t
          have tfin : Hid (∀ wx, Touch No w wx → ∀ v0 v1 v2 : Value, Touch No w (((wx.setCell ⟨R, 0, none⟩ v0).setCell ⟨R, 1, none⟩ v1).setCell ⟨R, 2, none⟩ v2)) := fun wx t v0 v1 v2 => by
            have hn : ∀ o' : Nat, (⟨R, o', none⟩ : Addr).block < w.heap.size → No (⟨R, o', none⟩ : Addr).block := fun o' h => absurd (show R < w.heap.size from h) (by have := HRR.out; omega)
            exact ((t.setCell (p := ⟨R, 0, none⟩) (hn 0) v0).setCell (p := ⟨R, 1, none⟩) (hn 1) v1).setCell (p := ⟨R, 2, none⟩) (hn 2) v2
          clear hkD hse hs
          by_cases hbad : s.bad = 1
          · have hx : Hid (Rt.sayE (Dk.at_ D.seen 1) = 12) := by show _ = _; rw [← HS.out, Rt.sayE, if_pos hbad]
            have hfin := far_err hE8.out FR.out (by decide) (by rw [hx.out]; decide)
            rw [hx.out] at hfin
            have Hfin := Lib.hid hfin
            have Hbad := Lib.hid hbad
            clear hfin hbad
            go_wp2_with fail
            refine (read_lost wr d D O 1 (H.out.no T.out) HkD.out (by rw [← HS.out]; exact Hbad.out)).mono ?_
            rintro e w' ⟨rfl, rfl⟩
            go_wp2
            exact bodyPost_ret (v := .tuple #[.agg #[.int .u32 0, .int .u32 0, .int .u32 0], .int .i64 0, .int .i64 12]) (by simp [results, Tryz.results145, go_sem, r0, r1, r2]) rfl ⟨by rw [Hfin.out.1, Hfin.out.2.1, Hfin.out.2.2]; rfl, tfin.out _ T.out _ _ _⟩
          · have hb0 : Hid (s.bad = 0) := by show _ = _; have := Hse.out.bad; rw [← HS.out] at this; omega
            have Hnb := Lib.hid hbad
            have hbytes : Hid (s.b.length = 64) := by show _ = _; rw [HS.out]; exact Hse.out.b.len
            have hblt : Hid (∀ x ∈ s.b, x < 256) := by show ∀ x ∈ s.b, x < 256; rw [HS.out]; exact Hse.out.b.lt
            clear hbad
            cases hno : Rt.nought s.b with
            | true =>
              have hx : Hid (Rt.sayE (Dk.at_ D.seen 1) = 0 ∧ Rt.sayIs (Dk.at_ D.seen 1) = false ∧ Rt.sayR (Dk.at_ D.seen 1) = Rt.zero) := by
                show _ ∧ _
                have h2 : Rt.sayIs s = false := by rw [Rt.sayIs, if_neg Hnb.out, if_pos hno]
                rw [← HS.out]
                exact ⟨by rw [Rt.sayE, if_neg Hnb.out, if_pos hno], h2, by rw [Rt.sayR, h2]; rfl⟩
              have hnx := far_next FR.out (by decide) hx.out.1
              rw [hx.out.2.1, hx.out.2.2] at hnx
              have Hnx : Hid (Far D (1 + 1) A B a b) := by
                show Far _ _ _ _ _ _
                have h3 := FR.out.2.2.2 (by decide)
                rw [h3.1, h3.2]
                skip
                exact (by simpa [h3.1, h3.2] using hnx)
              have Hno := Lib.hid hno
              clear hnx hno
              go_wp2_with fail
              refine (read_in wr d D O 1 (H.out.no T.out) HkD.out (by rw [← HS.out]; exact hb0.out)).mono ?_
              rw [← HS.out]
              rintro e w3 ⟨gb, rfl, _, R3, t3⟩
              have HR3 := Lib.hid R3
              have T3 := Lib.hid t3
              clear R3 t3
              go_wp2_with fail
              refine (nought_any w3 _ 64 64 _ hbytes.out (by decide) HR3.out).mono ?_
              rintro e w' ⟨rfl, rfl⟩
              rw [Hno.out]
              go_wp2
              go_roundg g
              case measure => omega
              case rel => exact ⟨1 + 1, A, B, a, b, by omega, by go_num, HRc.out _ T3.out, T.out.trans T3.out, Hnx.out⟩
            | false =>
              have Hno := Lib.hid hno
              clear hno
              obtain ⟨X, hX⟩ : ∃ X, X = Rt.rootOf s.b := ⟨_, rfl⟩
              obtain ⟨er, her⟩ : ∃ er, er = Rt.errOf s.b := ⟨_, rfl⟩
              have HX := Lib.hid hX
              have Her := Lib.hid her
              clear hX her
              go_wp2_with fail
              refine (read_in wr d D O 1 (H.out.no T.out) HkD.out (by rw [← HS.out]; exact hb0.out)).mono ?_
              rw [← HS.out]
              rintro e w3 ⟨gb, rfl, _, R3, t3⟩
              have HR3 := Lib.hid R3
              have T3 := Lib.hid t3
              clear R3 t3
              go_wp2_with fail
              refine (nought_any w3 _ 64 64 _ hbytes.out (by decide) HR3.out).mono ?_
              rintro e w' ⟨rfl, rfl⟩
              rw [Hno.out]
              go_wp2_with fail
              refine (rootGet_any w3 _ 64 64 s.b hbytes.out (Nat.le_refl _) (by decide) HR3.out hblt.out).mono ?_
              rw [← HX.out, ← Her.out]
              rintro e w4 ⟨rfl, t4⟩
              have T34 := Lib.hid (T3.out.trans t4)
              have F4 := Lib.hid (HRc.out w4 (T3.out.trans t4))
              clear t4 r0 r1 r2 f0 f1 f2
              have l0 := F4.out.l.cell 3
              have l1 := F4.out.l.cell 4
              have l2 := F4.out.l.cell 5
              have m0 := F4.out.l.soft 3
              have m1 := F4.out.l.soft 4
              have m2 := F4.out.l.soft 5
              have l0' : w4.cell? ⟨R + 1, 3, none⟩ = some (.int .u32 (B.epoch : Nat)) := l0
              have l1' : w4.cell? ⟨R + 1, 4, none⟩ = some (.int .u32 (B.first : Nat)) := l1
              have l2' : w4.cell? ⟨R + 1, 5, none⟩ = some (.int .u32 (B.bytes : Nat)) := l2
              clear l0 l1 l2
              obtain ⟨w5, hw5⟩ : ∃ w5, w5 = ((w4.setCell ⟨R + 1, 3, none⟩ (.int .u32 (X.epoch : Nat))).setCell ⟨R + 1, 4, none⟩ (.int .u32 (X.first : Nat))).setCell ⟨R + 1, 5, none⟩ (.int .u32 (X.bytes : Nat)) := ⟨_, rfl⟩
              have t45 : Touch (One (R + 1)) w4 w5 := by
                rw [hw5]
                exact (((Touch.refl (One (R + 1)) w4).setCell (p := ⟨R + 1, 3, none⟩) (fun _ => rfl) _).setCell (p := ⟨R + 1, 4, none⟩) (fun _ => rfl) _).setCell (p := ⟨R + 1, 5, none⟩) (fun _ => rfl) _
              have F5 : Hid (Fb w5 R A X a b) := by
                refine ⟨fun j hj => ?_, ?_, F4.out.i.touch t45 (fun e => by unfold One at e; omega)⟩
                · have h1 := F4.out.c j hj
                  exact ⟨t45.cell (fun e => by unfold One at e; omega) h1.1, (t45.frozen (lt_of_cell h1.1) (fun e => by unfold One at e; omega) j).trans h1.2⟩
                · rw [hw5]
                  exact ((F4.out.l.setCell 3 _).setCell 4 _).setCell 5 _
              have T5 := Lib.hid ((T.out.trans T34.out).then t45 (fun i hi e => by
                have h2 : i = R + 1 := e
                have h3 := HRR.out
                omega))
              have Hw5 := Lib.hid hw5
              clear hw5 t45
              by_cases h0 : er = 0
              · have hx : Hid (Rt.sayE (Dk.at_ D.seen 1) = 0 ∧ Rt.sayIs (Dk.at_ D.seen 1) = true ∧ Rt.sayR (Dk.at_ D.seen 1) = X) := by
                  show _ ∧ _
                  have hz : Rt.errOf s.b = 0 := by rw [← Her.out]; exact h0
                  have h2 : Rt.sayIs s = true := by rw [Rt.sayIs, if_neg Hnb.out, if_neg (by rw [Hno.out]; decide), hz]; rfl
                  rw [← HS.out]
                  exact ⟨by rw [Rt.sayE, if_neg Hnb.out, if_neg (by rw [Hno.out]; decide), hz], h2, by rw [Rt.sayR, h2, if_pos rfl, HX.out]⟩
                have hnx := far_next FR.out (by decide) hx.out.1
                rw [hx.out.2.1, hx.out.2.2] at hnx
                have Hnx : Hid (Far D (1 + 1) A X a true) := hnx
                clear hnx
                subst h0
                have i0 : w5.cell? ⟨R + 1 + 1, 1, none⟩ = some (.bool b) := F5.out.i.cell 1
                have j0 := F5.out.i.soft 1
                rw [Hw5.out] at i0 j0
                go_wp2
                go_roundg g
                case measure => omega
                case rel =>
                  refine ⟨1 + 1, A, X, a, true, by omega, by go_num, ?_, ?_, Hnx.out⟩
                  all_goals rw [← Hw5.out]
                  · have ts : Touch (One (R + 1 + 1)) w5 (w5.setCell ⟨R + 1 + 1, 1, none⟩ (.bool true)) := (Touch.refl (One (R + 1 + 1)) w5).setCell (p := ⟨R + 1 + 1, 1, none⟩) (fun _ => rfl) _
                    refine ⟨fun j hj => ?_, F5.out.l.touch ts (fun e => by unfold One at e; omega), F5.out.i.setCell 1 _⟩
                    have h1 := F5.out.c j hj
                    exact ⟨ts.cell (fun e => by unfold One at e; omega) h1.1, (ts.frozen (lt_of_cell h1.1) (fun e => by unfold One at e; omega) j).trans h1.2⟩
                  · exact T5.out.setCell (p := ⟨R + 1 + 1, 1, none⟩) (fun h => absurd (show R + 1 + 1 < w.heap.size from h) (by have := HRR.out; omega)) _
              · have hx : Hid (Rt.sayE (Dk.at_ D.seen 1) = er) := by
                  show _ = _
                  rw [← HS.out, Rt.sayE, if_neg Hnb.out, if_neg (by rw [Hno.out]; decide), Her.out]
                have hfin := far_err hE8.out FR.out (by decide) (by rw [hx.out]; exact h0)
                rw [hx.out] at hfin
                have hne : ((er : Int) != 0) = true := by simp; omega
                have Hfin := Lib.hid (show Rt.findE D = er ∧ Rt.findR D = Rt.zero ∧ Rt.findN D = 0 from hfin)
                have r0 := (F5.out.c 0 (by decide)).1
                have r1 := (F5.out.c 1 (by decide)).1
                have r2 := (F5.out.c 2 (by decide)).1
                have f0 := (F5.out.c 0 (by decide)).2
                have f1 := (F5.out.c 1 (by decide)).2
                have f2 := (F5.out.c 2 (by decide)).2
                have tq := fun v0 v1 v2 => Lib.hid (tfin.out _ T5.out v0 v1 v2)
                rw [Hw5.out] at r0 r1 r2 f0 f1 f2
                have Htq := Lib.hid tq
                clear tq hfin h0
                go_wp2
                refine bodyPost_ret (v := .tuple #[.agg #[.int .u32 0, .int .u32 0, .int .u32 0], .int .i64 0, .int .i64 (er : Nat)]) (by simp [results, Tryz.results145, go_sem, r0, r1, r2]) rfl ⟨by rw [Hfin.out.1, Hfin.out.2.1, Hfin.out.2.2]; rfl, ?_⟩
                have := (Htq.out (.int .u32 0) (.int .u32 0) (.int .u32 0)).out
                rw [Hw5.out] at this
                exact this
end Go.Proofs.YtnffigfafalocaaGreatDoor
