/-
  Package drydockref17 by its own text: find, Read, Write: roots on a disk of the reference.
-/
import Derived.Test.YtkiehoboeiengaaK35
import Derived.Test.YtkiehoboeiengaaK42
import Derived.Test.YtkiehoboeiengaaK45
import Derived.Deep.DeepCutAuto
namespace Go.Proofs.Ytkiehoboeiengaa
open Go Go.RowKit
set_option linter.unusedSimpArgs false
set_option linter.unusedVariables false

namespace Rt
/-- what find has found so far -/
structure Found where
  is : Bool
  out : Root
  next : Nat
def foundNext (k : Nat) (s : Dk.Sec) (x : Found) : Found := if sayIs s && (!x.is || decide (x.out.epoch < (sayR s).epoch)) then ⟨true, sayR s, 1 - k⟩ else x
def found (D : Dk.Disk) : Nat → Found
  | 0 => ⟨false, zero, 0⟩
  | k + 1 => foundNext k (Dk.at_ D.seen k) (found D k)
theorem found_end {D : Dk.Disk} (h8 : ¬ D.seen.length < 8) (e0 : sayE (Dk.at_ D.seen 0) = 0) (e1 : sayE (Dk.at_ D.seen 1) = 0) :
    ((found D 2).is = true → findE D = 0 ∧ findR D = (found D 2).out ∧ findN D = (found D 2).next) ∧ ((found D 2).is = false → findE D = 7 ∧ findR D = zero ∧ findN D = 0) := by
  have hE : findE D = if sayIs (Dk.at_ D.seen 0) = false ∧ sayIs (Dk.at_ D.seen 1) = false then 7 else 0 := by
    rw [findE, if_neg h8, if_neg (fun h => h e0), if_neg (fun h => h e1)]
  rcases Bool.eq_false_or_eq_true (sayIs (Dk.at_ D.seen 0)) with h0 | h0 <;> rcases Bool.eq_false_or_eq_true (sayIs (Dk.at_ D.seen 1)) with h1 | h1
  · by_cases hlt : (sayR (Dk.at_ D.seen 0)).epoch < (sayR (Dk.at_ D.seen 1)).epoch <;> simp [found, foundNext, findR, findN, hE, second, h0, h1, hlt]
  · simp [found, foundNext, findR, findN, hE, second, h0, h1]
  · simp [found, foundNext, findR, findN, hE, second, h0, h1]
  · simp [found, foundNext, findR, findN, hE, second, h0, h1]
theorem found_err {D : Dk.Disk} (h8 : ¬ D.seen.length < 8) {k : Nat} (hk : k < 2) (h0 : ∀ i, i < k → sayE (Dk.at_ D.seen i) = 0) (he : sayE (Dk.at_ D.seen k) ≠ 0) : findE D = sayE (Dk.at_ D.seen k) ∧ findR D = zero ∧ findN D = 0 := by
  have hE : findE D = sayE (Dk.at_ D.seen k) := by
    have : k = 0 ∨ k = 1 := by omega
    rcases this with rfl | rfl
    · rw [findE, if_neg h8, if_pos he]
    · rw [findE, if_neg h8, if_neg (fun h => h (h0 0 (by decide))), if_pos he]
  exact ⟨hE, by rw [findR, if_neg (by rw [hE]; exact he)], by rw [findN, if_neg (fun h => he (by rw [← hE]; exact h.1))]⟩
end Rt
/-- the cells of find: its result, the root so far -/
structure Fz (w : World) (R : Nat) (A : Rt.Root) : Prop where
  c : Row w R 33 (rootC Rt.zero)
  o : Row w (R + 1) 33 (rootC A)
theorem Fz.no {w w' : World} {R : Nat} {A : Rt.Root} (h : Fz w R A) (t : Touch No w w') : Fz w' R A := ⟨h.c.touch t id, h.o.touch t id⟩
set_option maxRecDepth 100000 in
set_option maxHeartbeats 8000000 in
theorem refFind_any {w : World} {g : Nat} {D : Dk.Disk} {vs vn vw : Value} (h : RdAt w g D vs vn vw) :
    Calls Try.prog 44 #[.pointer (some ⟨g, 0, none⟩)] w (FindPost w (Rt.findR D) (Rt.findN D) (Rt.findE D)) := by
  have HR := Lib.hid h
  have Hok := Lib.hid h.ok
  obtain ⟨q, hq⟩ : ∃ q, D.seen.length = q := ⟨_, rfl⟩
  have HLen : Hid (∀ wx, Touch No w wx → Calls Try.prog 65 #[.pointer (some ⟨g, 0, none⟩)] wx fun e w' => e = .returned (.int .i64 (q : Nat)) ∧ wx = w') := fun wx t => by
    have := refLen_at (h.no t)
    rwa [hq] at this
  have htop := h.ok.top
  rw [hq] at htop
  have Hq := Lib.hid hq
  clear h hq
  by_cases h8 : q < 8
  · have hE : Rt.findE D = 1 := by rw [Rt.findE, if_pos (by rw [Hq.out]; exact h8)]
    have hR : Rt.findR D = Rt.zero := by rw [Rt.findR, if_neg (by rw [hE]; decide)]
    have hN : Rt.findN D = 0 := by rw [Rt.findN, if_neg (fun h => by rw [hE] at h; exact absurd h.1 (by decide))]
    rw [hE, hR, hN]
    have h8' : (q : Int) < 8 := by omega
    clear hE hR hN h8
    go_enter Try.func44, Try.ntmps44
    go_wp2_with fail
    refine (HLen.out _ ((Touch.refl No w).alloc _)).mono ?_
    rintro e w' ⟨rfl, rfl⟩
    go_wp2
    exact bodyPost_ret (v := .tuple #[.agg #[.int .u32 0, .int .u32 0, .int .u32 0], .int .i64 0, .int .i64 1]) (by simp [results, Try.results44, go_sem]) rfl ⟨rfl, (Touch.refl No w).alloc _⟩
  · have h8' : ¬ (q : Int) < 8 := by omega
    have hq2 : Hid (∀ k, k < 2 → k < D.seen.length) := fun k hk => by rw [Hq.out]; omega
    have hE8 : Hid (¬ D.seen.length < 8) := by show ¬ _; rw [Hq.out]; exact h8
    clear h8
    go_enter Try.func44, Try.ntmps44
    go_wp2_with fail
    refine (HLen.out _ ((Touch.refl No w).alloc _)).mono ?_
    rintro e w' ⟨rfl, rfl⟩
    go_wp2_with fail
    obtain ⟨R, hR⟩ : ∃ R, R = w.heap.size := ⟨_, rfl⟩
    obtain ⟨W, hW⟩ : ∃ W, W = (w.alloc (.cells #[.int .u32 0, .int .u32 0, .int .u32 0] 33)).alloc (.cells #[.int .u32 0, .int .u32 0, .int .u32 0] 33) := ⟨_, rfl⟩
    have tW : Touch No w W := by rw [hW]; exact ((Touch.refl No w).alloc _).alloc _
    have hF : Fz W R Rt.zero := by
      have a1 := (Row.new w 33 #[.int .u32 0, .int .u32 0, .int .u32 0])
      have a2 := (Row.new (w.alloc (.cells #[.int .u32 0, .int .u32 0, .int .u32 0] 33)) 33 #[.int .u32 0, .int .u32 0, .int .u32 0])
      have b1 := a1.touch ((Touch.refl No _).alloc (.cells #[.int .u32 0, .int .u32 0, .int .u32 0] 33)) id
      rw [size_alloc] at a2
      rw [hW, hR]
      exact ⟨b1, a2⟩
    have hRw : w.heap.size ≤ R := by omega
    rw [← hR, ← hW]
    have HRR := Lib.hid hRw
    have HF := Lib.hid hF
    have HT := Lib.hid tW
    clear hR hW tW hF hRw
    go_loopg [6, 7, 8] 2 (fun gh s6 s7 s8 wr => ∃ (k : Nat) (x : Rt.Found), k + gh = 2 ∧ s8 = .int .i64 ((k : Nat) : Int) ∧ s7 = .bool x.is ∧ s6 = .int .i64 ((x.next : Nat) : Int) ∧ Hid (x = Rt.found D k) ∧ Hid (Fz wr R x.out) ∧ Hid (Touch No w wr) ∧ Hid (∀ i, i < k → Rt.sayE (Dk.at_ D.seen i) = 0))
    case atStart => exact ⟨0, _, rfl, rfl, rfl, rfl, rfl, HF.out, HT.out, fun i hi => absurd hi (Nat.not_lt_zero i)⟩
    case round =>
      clear HF HT
      obtain ⟨k, ⟨xi, ⟨xe, xf, xb⟩, xn⟩, hkg, rfl, rfl, rfl, HX, F, T, HE⟩ := hrel
      dsimp only at F
      dsimp only
      have c0 : wr.cell? ⟨R, 0, none⟩ = some (.int .u32 0) := F.out.c.cell 0
      have c1 : wr.cell? ⟨R, 1, none⟩ = some (.int .u32 0) := F.out.c.cell 1
      have c2 : wr.cell? ⟨R, 2, none⟩ = some (.int .u32 0) := F.out.c.cell 2
      have f0 := F.out.c.soft 0
      have f1 := F.out.c.soft 1
      have f2 := F.out.c.soft 2
      have o0 : wr.cell? ⟨R + 1, 0, none⟩ = some (.int .u32 (xe : Nat)) := F.out.o.cell 0
      have o1 : wr.cell? ⟨R + 1, 1, none⟩ = some (.int .u32 (xf : Nat)) := F.out.o.cell 1
      have o2 : wr.cell? ⟨R + 1, 2, none⟩ = some (.int .u32 (xb : Nat)) := F.out.o.cell 2
      have tfin : Hid (∀ wx, Touch No w wx → ∀ v0 v1 v2 : Value, Touch No w (((wx.setCell ⟨R, 0, none⟩ v0).setCell ⟨R, 1, none⟩ v1).setCell ⟨R, 2, none⟩ v2)) := fun wx t v0 v1 v2 => by
        have hn : ∀ o' : Nat, (⟨R, o', none⟩ : Addr).block < w.heap.size → No (⟨R, o', none⟩ : Addr).block := fun o' h => absurd (show R < w.heap.size from h) (by have := HRR.out; omega)
        exact ((t.setCell (p := ⟨R, 0, none⟩) (hn 0) v0).setCell (p := ⟨R, 1, none⟩) (hn 1) v1).setCell (p := ⟨R, 2, none⟩) (hn 2) v2
      cases gk with
      | zero =>
        obtain rfl : k = 2 := by omega
        have fe := Rt.found_end hE8.out (HE.out 0 (by decide)) (HE.out 1 (by decide))
        rw [← HX.out] at fe
        dsimp only at fe
        cases xi with
        | true =>
          obtain ⟨hE, hR, hN⟩ := fe.1 rfl
          have HP : Hid (∀ wx, Touch No w wx → FindPost w (Rt.findR D) (Rt.findN D) (Rt.findE D) (.returned (.tuple #[.agg #[.int .u32 (xe : Nat), .int .u32 (xf : Nat), .int .u32 (xb : Nat)], .int .i64 (xn : Nat), .int .i64 0])) wx) := fun wx t => by rw [hE, hR, hN]; exact ⟨rfl, t⟩
          clear fe hE hR hN
          go_wp2
          refine bodyPost_ret (v := .tuple #[.agg #[.int .u32 (xe : Nat), .int .u32 (xf : Nat), .int .u32 (xb : Nat)], .int .i64 (xn : Nat), .int .i64 0]) (by simp [results, Try.results44, go_sem, c0, c1, c2]) rfl (HP.out _ (tfin.out _ T.out _ _ _))
        | false =>
          obtain ⟨hE, hR, hN⟩ := fe.2 rfl
          have HP : Hid (∀ wx, Touch No w wx → FindPost w (Rt.findR D) (Rt.findN D) (Rt.findE D) (.returned (.tuple #[.agg #[.int .u32 0, .int .u32 0, .int .u32 0], .int .i64 0, .int .i64 7])) wx) := fun wx t => by rw [hE, hR, hN]; exact ⟨rfl, t⟩
          clear fe hE hR hN
          go_wp2
          refine bodyPost_ret (v := .tuple #[.agg #[.int .u32 0, .int .u32 0, .int .u32 0], .int .i64 0, .int .i64 7]) (by simp [results, Try.results44, go_sem, c0, c1, c2]) rfl (HP.out _ (tfin.out _ T.out _ _ _))
      | succ g' =>
        have hk2 : (k : Int) < 2 := by omega
        have hkn : k < 2 := by omega
        have hkl := hq2.out k hkn
        have hso := Hok.out.seen _ (Dk.at_mem hkl)
        have C := Lib.hid (refRead3_in (HR.out.no T.out) k hkl)
        obtain ⟨S, hS⟩ : ∃ S, Dk.at_ D.seen k = S := ⟨_, rfl⟩
        rw [hS] at C hso
        have HS := Lib.hid hS
        have Hkn := Lib.hid hkn
        have H8 := Lib.hid hso.b.lt
        have H64 := Lib.hid hso.b.len
        clear hkl hkn hS hso
        by_cases hb : S.bad = 1
        · have hs : Rt.sayE S = 12 := by rw [Rt.sayE, if_pos hb]
          obtain ⟨hE, hR, hN⟩ := Rt.found_err hE8.out Hkn.out HE.out (by rw [HS.out, hs]; decide)
          rw [HS.out, hs] at hE
          have HP : Hid (∀ wx, Touch No w wx → FindPost w (Rt.findR D) (Rt.findN D) (Rt.findE D) (.returned (.tuple #[.agg #[.int .u32 0, .int .u32 0, .int .u32 0], .int .i64 0, .int .i64 12])) wx) := fun wx t => by rw [hE, hR, hN]; exact ⟨rfl, t⟩
          rw [Dk.errOf, if_pos hb] at C
          clear hE hR hN hs hb
          go_wp2_with fail
          refine C.out.mono ?_
          rintro e w3 ⟨xa, xl, xc, xr, rfl, hxr, hxl, rfl, t3, _⟩
          have T3 := Lib.hid (T.out.trans t3)
          have F3 := F.out.no t3
          have c0 : w3.cell? ⟨R, 0, none⟩ = some (.int .u32 0) := F3.c.cell 0
          have c1 : w3.cell? ⟨R, 1, none⟩ = some (.int .u32 0) := F3.c.cell 1
          have c2 : w3.cell? ⟨R, 2, none⟩ = some (.int .u32 0) := F3.c.cell 2
          have f0 := F3.c.soft 0
          have f1 := F3.c.soft 1
          have f2 := F3.c.soft 2
          clear hxr hxl t3 F3
          go_wp2
          refine bodyPost_ret (v := .tuple #[.agg #[.int .u32 0, .int .u32 0, .int .u32 0], .int .i64 0, .int .i64 12]) (by simp [results, Try.results44, go_sem, c0, c1, c2]) rfl (HP.out _ (tfin.out _ T3.out _ _ _))
        · rw [Dk.errOf, if_neg hb, Dk.bytesOf, if_neg hb] at C
          have Hb := Lib.hid hb
          clear hb
          go_wp2_with fail
          refine C.out.mono ?_
          rintro e w3 ⟨xa, xl, xc, xr, rfl, hxr, hxl, rfl, t3, hxc⟩
          obtain rfl : xl = 64 := by rw [← hxl, H64.out]
          have T3 := Lib.hid (T.out.trans t3)
          have F3 := Lib.hid (F.out.no t3)
          have Hxr := Lib.hid hxr
          have Hxc := Lib.hid hxc
          clear hxc
          clear hxr hxl t3 F c0 c1 c2 f0 f1 f2 o0 o1 o2
          have CN := Lib.hid (refNoughts_any w3 xa 64 xc S.b H64.out (by decide) Hxr.out)
          by_cases hz : Rt.nought S.b = true
          · rw [hz] at CN
            have hs0 : Rt.sayE S = 0 := by rw [Rt.sayE, if_neg Hb.out, if_pos hz]
            have hsi : Rt.sayIs S = false := by rw [Rt.sayIs, if_neg Hb.out, if_pos hz]
            have HX2 : Hid ((⟨xi, ⟨xe, xf, xb⟩, xn⟩ : Rt.Found) = Rt.found D (k + 1)) := by
              show _ = _
              rw [Rt.found, ← HX.out, HS.out, Rt.foundNext, hsi]; rfl
            have HE2 : Hid (∀ i, i < k + 1 → Rt.sayE (Dk.at_ D.seen i) = 0) := fun i hi => by
              by_cases e : i = k
              · subst e; rw [HS.out]; exact hs0
              · exact HE.out i (by omega)
            clear hz hs0 hsi
            go_wp2_with fail
            refine CN.out.mono ?_
            rintro e w4 ⟨rfl, rfl⟩
            go_wp2_with fail
            go_roundg g'
            case measure => omega
            case rel => exact ⟨k + 1, _, by omega, by go_num, rfl, rfl, HX2.out, F3.out, T3.out, HE2.out⟩
          · rw [show Rt.nought S.b = false by simpa using hz] at CN
            have CG := Lib.hid (refRootGet_any w3 xa 64 xc S.b H64.out Hxc.out Hxr.out H8.out)
            obtain ⟨⟨re, rf, rb⟩, hR⟩ : ∃ r, Rt.rootOf S.b = r := ⟨_, rfl⟩
            obtain ⟨E, hE⟩ : ∃ E, Rt.errOf S.b = E := ⟨_, rfl⟩
            have hsE : Rt.sayE S = E := by rw [Rt.sayE, if_neg Hb.out, if_neg hz, hE]
            rw [hR, hE] at CG
            by_cases h0 : E = 0
            · subst h0
              have hsi : Rt.sayIs S = true := by rw [Rt.sayIs, if_neg Hb.out, if_neg hz, hE]; rfl
              have hsr : Rt.sayR S = ⟨re, rf, rb⟩ := by rw [Rt.sayR, if_pos hsi, hR]
              have HE2 : Hid (∀ i, i < k + 1 → Rt.sayE (Dk.at_ D.seen i) = 0) := fun i hi => by
                by_cases e : i = k
                · subst e; rw [HS.out]; exact hsE
                · exact HE.out i (by omega)
              have HX2 : Hid ((if (!xi || decide (xe < re)) = true then (⟨true, ⟨re, rf, rb⟩, 1 - k⟩ : Rt.Found) else ⟨xi, ⟨xe, xf, xb⟩, xn⟩) = Rt.found D (k + 1)) := by
                show _ = _
                rw [Rt.found, ← HX.out, HS.out, Rt.foundNext, hsi, hsr]; rfl
              clear hz hsE hsi hsr hR hE HS
              go_wp2_with fail
              refine CN.out.mono ?_
              rintro e w4 ⟨rfl, rfl⟩
              go_wp2_with fail
              refine CG.out.mono ?_
              rintro e w4 ⟨rfl, t4⟩
              have T4 := Lib.hid (T3.out.trans t4)
              have F4 := Lib.hid (F3.out.no t4)
              clear t4 F3 T3 CG CN
              go_upto_region 14 with fail
              obtain ⟨W5, hW5⟩ : ∃ W5, W5 = w4.alloc (.cells #[.int .u32 (re : Nat), .int .u32 (rf : Nat), .int .u32 (rb : Nat)] 33) := ⟨_, rfl⟩
              have t5 : Touch No w4 W5 := by rw [hW5]; exact (Touch.refl No w4).alloc _
              have hrow5 : Row W5 w4.heap.size 33 (rootC ⟨re, rf, rb⟩) := by rw [hW5]; exact Row.new w4 _ _
              have T5 := Lib.hid (T4.out.trans t5)
              have F5 := Lib.hid (F4.out.no t5)
              have hlt5 : R + 1 < w4.heap.size := F4.out.o.lt
              have hne5 : ¬ R + 1 = w4.heap.size := by omega
              rw [← hW5]
              have o0 : W5.cell? ⟨R + 1, 0, none⟩ = some (.int .u32 (xe : Nat)) := F5.out.o.cell 0
              have o1 : W5.cell? ⟨R + 1, 1, none⟩ = some (.int .u32 (xf : Nat)) := F5.out.o.cell 1
              have o2 : W5.cell? ⟨R + 1, 2, none⟩ = some (.int .u32 (xb : Nat)) := F5.out.o.cell 2
              have p0 := F5.out.o.soft 0
              have p1 := F5.out.o.soft 1
              have p2 := F5.out.o.soft 2
              have r0 : W5.cell? ⟨w4.heap.size, 0, none⟩ = some (.int .u32 (re : Nat)) := hrow5.cell 0
              have r1 : W5.cell? ⟨w4.heap.size, 1, none⟩ = some (.int .u32 (rf : Nat)) := hrow5.cell 1
              have r2 : W5.cell? ⟨w4.heap.size, 2, none⟩ = some (.int .u32 (rb : Nat)) := hrow5.cell 2
              have FS : Hid (Fz (((W5.setCell ⟨R + 1, 0, none⟩ (.int .u32 (re : Nat))).setCell ⟨R + 1, 1, none⟩ (.int .u32 (rf : Nat))).setCell ⟨R + 1, 2, none⟩ (.int .u32 (rb : Nat))) R ⟨re, rf, rb⟩ ∧ Touch No w (((W5.setCell ⟨R + 1, 0, none⟩ (.int .u32 (re : Nat))).setCell ⟨R + 1, 1, none⟩ (.int .u32 (rf : Nat))).setCell ⟨R + 1, 2, none⟩ (.int .u32 (rb : Nat)))) := by
                have tS : Touch (One (R + 1)) W5 (((W5.setCell ⟨R + 1, 0, none⟩ (.int .u32 (re : Nat))).setCell ⟨R + 1, 1, none⟩ (.int .u32 (rf : Nat))).setCell ⟨R + 1, 2, none⟩ (.int .u32 (rb : Nat))) := (((Touch.refl (One (R + 1)) W5).setCell (p := ⟨R + 1, 0, none⟩) (fun _ => rfl) _).setCell (p := ⟨R + 1, 1, none⟩) (fun _ => rfl) _).setCell (p := ⟨R + 1, 2, none⟩) (fun _ => rfl) _
                refine ⟨⟨F5.out.c.touch tS (fun e => by have e2 : R = R + 1 := e; omega), ((F5.out.o.setCell 0 _).setCell 1 _).setCell 2 _⟩, T5.out.then tS (fun i hi e => by have e2 : i = R + 1 := e; have := HRR.out; omega)⟩
              clear T4 F4 t5 hrow5 hW5
              by_cases hx : (!xi || decide (xe < re)) = true
              · rw [if_pos hx] at HX2
                cases xi with
                | false =>
                  clear hx
                  go_wp2_with fail
                  go_roundg g'
                  case measure => omega
                  case rel => exact ⟨k + 1, ⟨true, ⟨re, rf, rb⟩, 1 - k⟩, by omega, by go_num, rfl, by have := Hkn.out; dsimp only; congr 1; omega, HX2.out, FS.out.1, FS.out.2, HE2.out⟩
                | true =>
                  have hlt : (xe : Int) < (re : Nat) := by simp at hx; omega
                  clear hx
                  go_wp2_with fail
                  go_roundg g'
                  case measure => omega
                  case rel => exact ⟨k + 1, ⟨true, ⟨re, rf, rb⟩, 1 - k⟩, by omega, by go_num, rfl, by have := Hkn.out; dsimp only; congr 1; omega, HX2.out, FS.out.1, FS.out.2, HE2.out⟩
              · rw [if_neg hx] at HX2
                cases xi with
                | false => simp at hx
                | true =>
                  have hlt : ¬ (xe : Int) < (re : Nat) := by simp at hx; omega
                  clear hx
                  go_wp2_with fail
                  go_roundg g'
                  case measure => omega
                  case rel => exact ⟨k + 1, _, by omega, by go_num, rfl, rfl, HX2.out, F5.out, T5.out, HE2.out⟩
            · obtain ⟨hfE, hfR, hfN⟩ := Rt.found_err hE8.out Hkn.out HE.out (by rw [HS.out, hsE]; exact h0)
              rw [HS.out, hsE] at hfE
              have HP : Hid (∀ wx, Touch No w wx → FindPost w (Rt.findR D) (Rt.findN D) (Rt.findE D) (.returned (.tuple #[.agg #[.int .u32 0, .int .u32 0, .int .u32 0], .int .i64 0, .int .i64 (E : Nat)])) wx) := fun wx t => by rw [hfE, hfR, hfN]; exact ⟨rfl, t⟩
              have hne : ((E : Int) != 0) = true := by simp; omega
              clear hfE hfR hfN hsE hz hR hE h0
              go_wp2_with fail
              refine CN.out.mono ?_
              rintro e w4 ⟨rfl, rfl⟩
              go_wp2_with fail
              refine CG.out.mono ?_
              rintro e w4 ⟨rfl, t4⟩
              have T4 := Lib.hid (T3.out.trans t4)
              have F4 := F3.out.no t4
              go_upto_region 14 with fail
              obtain ⟨W5, hW5⟩ : ∃ W5, W5 = w4.alloc (.cells #[.int .u32 (re : Nat), .int .u32 (rf : Nat), .int .u32 (rb : Nat)] 33) := ⟨_, rfl⟩
              have t5 : Touch No w4 W5 := by rw [hW5]; exact (Touch.refl No w4).alloc _
              have T5 := Lib.hid (T4.out.trans t5)
              have F5 := F4.no t5
              rw [← hW5]
              have c0 : W5.cell? ⟨R, 0, none⟩ = some (.int .u32 0) := F5.c.cell 0
              have c1 : W5.cell? ⟨R, 1, none⟩ = some (.int .u32 0) := F5.c.cell 1
              have c2 : W5.cell? ⟨R, 2, none⟩ = some (.int .u32 0) := F5.c.cell 2
              have f0 := F5.c.soft 0
              have f1 := F5.c.soft 1
              have f2 := F5.c.soft 2
              clear t4 F3 F4 T3 CG CN t5 F5 hW5
              go_wp2
              refine bodyPost_ret (v := .tuple #[.agg #[.int .u32 0, .int .u32 0, .int .u32 0], .int .i64 0, .int .i64 (E : Nat)]) (by simp [results, Try.results44, go_sem, c0, c1, c2]) rfl (HP.out _ (tfin.out _ T5.out _ _ _))
end Go.Proofs.Ytkiehoboeiengaa
