/-
  Package drydocklaw17 by its own text: the walk of RootsGet.
-/
import Derived.Test.YtmjeigceclmdoaaGreatDoorBkPre
import Derived.Test.YtmjeigceclmdoaaGreatDoorTwinB
import Derived.Test.YtmjeigceclmdoaaGreatDoorRootAll
import Derived.Test.YtmjeigceclmdoaaGreatDoorSameN
import Derived.Test.YtmjeigceclmdoaaGreatDoorIn
namespace Go.Proofs.YtmjeigceclmdoaaGreatDoor
open Go Go.RowKit
set_option linter.unusedSimpArgs false

set_option maxRecDepth 100000 in
set_option maxHeartbeats 16000000 in
theorem rootsGet_walk (w : World) (pb : Option Addr) (n cb : Nat) (b : List Nat) (hB : Bytes w pb n cb b) (xe xf xb : Nat) (h1 : xe < 4294967296) (h2 : xf < 4294967296) (h3 : xb < 4294967296) :
    Calls Tryz.prog 7 #[.slice pb n cb, .agg #[.int .u32 (xe : Nat), .int .u32 (xf : Nat), .int .u32 (xb : Nat)]] w (TruePost w) := by
  have HB := Lib.hid hB
  have hnm := hB.nlow
  have Hok : Hid (Rt.Root.Ok ⟨xe, xf, xb⟩) := ⟨h1, h2, h3⟩
  clear hB h1 h2 h3
  go_enter Tryz.func7, Tryz.ntmps7
  go_wp2_with fail
  obtain ⟨W0, hW0⟩ : ∃ W0, W0 = w.alloc (.cells #[.int .u32 (xe : Nat), .int .u32 (xf : Nat), .int .u32 (xb : Nat)] 101) := ⟨_, rfl⟩
  obtain ⟨G, hG⟩ : ∃ G, G = w.heap.size := ⟨_, rfl⟩
  have hrow : Row W0 G 101 [.int .u32 (xe : Nat), .int .u32 (xf : Nat), .int .u32 (xb : Nat)] := by rw [hW0, hG]; exact Row.new w _ _
  have hT0 : Touch No w W0 := by rw [hW0]; exact (Touch.refl No w).alloc _
  have HT0 := Lib.hid hT0
  have HK : Hid (∀ wx, Touch No W0 wx → wx.cell? ⟨G, 0, none⟩ = some (.int .u32 (xe : Nat)) ∧ wx.cell? ⟨G, 1, none⟩ = some (.int .u32 (xf : Nat)) ∧ wx.cell? ⟨G, 2, none⟩ = some (.int .u32 (xb : Nat))) := fun wx t => ⟨(hrow.touch t id).cell 0, (hrow.touch t id).cell 1, (hrow.touch t id).cell 2⟩
  rw [← hW0, ← hG]
  clear hW0 hG hrow hT0
  have hrb : Hid (∀ wx : World, Touch No W0 wx → Rd wx pb (nums .u8 b)) := fun wx t => HB.out.rd.no (HT0.out.trans t)
  refine (twinBytes_any _ pb n cb (b.map fun (x : Nat) => (x : Int)) (by rw [List.length_map]; exact HB.out.len) (by omega) (by rw [nums_ints]; exact hrb.out _ (Touch.refl _ _))).mono ?_
  rintro e w2 ⟨at', ct, rfl, hct, ot, t2⟩
  rw [nums_ints] at ot
  have hcmax : Hid ((ct : Int) ≤ 9223372036854775807) := by
    have h := ot.room.2.1
    exact h
  have S2 := Lib.hid ((Sl.nil (Touch.refl No W0)).push (born_own t2 ot))
  clear ot t2
  obtain ⟨⟨re, rf, rb⟩, hR⟩ : ∃ r, Rt.rootOf b = r := ⟨_, rfl⟩
  obtain ⟨E, hE⟩ : ∃ E, Rt.errOf b = E := ⟨_, rfl⟩
  have HR := Lib.hid hR
  have HE := Lib.hid hE
  clear hR hE
  go_wp2_with fail
  have G1 := rootGet_any w2 at' n ct b HB.out.len (by omega) hcmax.out (rd_pre (S2.out.rd List.mem_cons_self)) HB.out.lt
  rw [HR.out, HE.out] at G1
  refine G1.mono ?_
  clear G1
  rintro e w3 ⟨rfl, t3⟩
  have S3 := Lib.hid (S2.out.no t3)
  clear t3 S2
  go_wp2_with fail
  obtain ⟨gA, hgA⟩ : ∃ gA, gA = w3.heap.size := ⟨_, rfl⟩
  obtain ⟨wA, hwA⟩ : ∃ wA, wA = w3.alloc (.cells #[.int .u32 (re : Nat), .int .u32 (rf : Nat), .int .u32 (rb : Nat)] 101) := ⟨_, rfl⟩
  have S4 : Hid (Sl W0 wA [Part.row gA 101 [.int .u32 (re : Nat), .int .u32 (rf : Nat), .int .u32 (rb : Nat)], Part.sl 5 at' (n + 1) ct (nums .u8 b ++ [.int .u8 77])]) := by
    show Sl _ _ _
    rw [hwA, hgA]
    exact S3.out.push (Born.row w3 101 #[.int .u32 (re : Nat), .int .u32 (rf : Nat), .int .u32 (rb : Nat)])
  rw [← hwA, ← hgA]
  clear hwA hgA S3
  have G2 := refRootGet_any wA pb n cb b HB.out.len HB.out.cap (hrb.out _ S4.out.end) HB.out.lt
  rw [HR.out, HE.out] at G2
  refine G2.mono ?_
  clear G2
  rintro e w5 ⟨rfl, t5⟩
  have S5 := Lib.hid (S4.out.no t5)
  clear t5 S4
  have k0 : ∀ ob, (w5.alloc ob).cell? ⟨G, 0, none⟩ = some (.int .u32 (xe : Nat)) := fun ob => (HK.out _ (S5.out.end.alloc ob)).1
  have k1 : ∀ ob, (w5.alloc ob).cell? ⟨G, 1, none⟩ = some (.int .u32 (xf : Nat)) := fun ob => (HK.out _ (S5.out.end.alloc ob)).2.1
  have k2 : ∀ ob, (w5.alloc ob).cell? ⟨G, 2, none⟩ = some (.int .u32 (xb : Nat)) := fun ob => (HK.out _ (S5.out.end.alloc ob)).2.2
  go_wp2_with fail
  clear k0 k1 k2
  obtain ⟨gC, hgC⟩ : ∃ gC, gC = w5.heap.size := ⟨_, rfl⟩
  obtain ⟨wC, hwC⟩ : ∃ wC, wC = w5.alloc (.cells #[.int .u32 (re : Nat), .int .u32 (rf : Nat), .int .u32 (rb : Nat)] 101) := ⟨_, rfl⟩
  have S6 : Hid (Sl W0 wC [Part.row gC 101 [.int .u32 (re : Nat), .int .u32 (rf : Nat), .int .u32 (rb : Nat)], Part.row gA 101 [.int .u32 (re : Nat), .int .u32 (rf : Nat), .int .u32 (rb : Nat)], Part.sl 5 at' (n + 1) ct (nums .u8 b ++ [.int .u8 77])]) := by
    show Sl _ _ _
    rw [hwC, hgC]
    exact S5.out.push (Born.row w5 101 #[.int .u32 (re : Nat), .int .u32 (rf : Nat), .int .u32 (rb : Nat)])
  rw [← hwC, ← hgC]
  clear hwC hgC S5
  refine (rootPut_any wC ⟨xe, xf, xb⟩ Hok.out).mono ?_
  rintro e w7 ⟨ay, cy, rfl, oy, t7⟩
  have S7 := Lib.hid (S6.out.push (born_own t7 oy))
  clear oy t7 S6
  go_wp2_with fail
  have Sb := S7.out.push (born_pre w7 _ rfl)
  have HS := Lib.hid Sb
  obtain ⟨gk, hgk⟩ : ∃ gk, gk = w7.heap.size := ⟨_, rfl⟩
  rw [← hgk] at HS ⊢
  clear Sb S7 hgk
  refine (HS.out.preBytes at' n ct (by simp) (by simp)).mono ?_
  rintro e v1 ⟨rfl, h1⟩
  have H1 := Lib.hid h1
  clear h1 HS
  go_wp2_with fail
  refine (H1.out.preBytes ay 64 cy (by simp) (by simp)).mono ?_
  rintro e v2 ⟨rfl, h2⟩
  have H2 := Lib.hid h2
  clear h2 H1
  obtain ⟨_, ⟨rowC, _⟩, _⟩ := H2.out.mem (List.mem_cons_of_mem _ (List.mem_cons_of_mem _ List.mem_cons_self))
  obtain ⟨_, ⟨rowA, _⟩, _⟩ := H2.out.mem (List.mem_cons_of_mem _ (List.mem_cons_of_mem _ (List.mem_cons_of_mem _ List.mem_cons_self)))
  have a0 : v2.cell? ⟨gA, 0, none⟩ = some (.int .u32 (re : Nat)) := rowA.cell 0
  have a1 : v2.cell? ⟨gA, 1, none⟩ = some (.int .u32 (rf : Nat)) := rowA.cell 1
  have a2 : v2.cell? ⟨gA, 2, none⟩ = some (.int .u32 (rb : Nat)) := rowA.cell 2
  have c0 : v2.cell? ⟨gC, 0, none⟩ = some (.int .u32 (re : Nat)) := rowC.cell 0
  have c1 : v2.cell? ⟨gC, 1, none⟩ = some (.int .u32 (rf : Nat)) := rowC.cell 1
  have c2 : v2.cell? ⟨gC, 2, none⟩ = some (.int .u32 (rb : Nat)) := rowC.cell 2
  clear rowC rowA
  go_wp2_with fail
  clear a0 a1 a2 c0 c1 c2
  refine (leftBytes_any _ at' n ct pb cb (b.map fun (x : Nat) => (x : Int)) (by rw [List.length_map]; exact HB.out.len) (by omega) hct (by rw [nums_ints]; exact H2.out.rd (List.mem_cons_of_mem _ (List.mem_cons_of_mem _ (List.mem_cons_of_mem _ (List.mem_cons_of_mem _ List.mem_cons_self))))) (by rw [nums_ints]; exact hrb.out _ H2.out.end)).mono ?_
  rintro e v3 ⟨rfl, t3⟩
  have H3 := Lib.hid (H2.out.no t3)
  clear t3 H2
  obtain ⟨k0, k1, k2⟩ := HK.out _ H3.out.end
  go_wp2_with fail
  clear k0 k1 k2
  refine (refRootPut_any v3 ⟨xe, xf, xb⟩ Hok.out).mono ?_
  rintro e v4 ⟨aw, cw, rfl, ow, t4⟩
  have H4 := Lib.hid (H3.out.no t4)
  have R4 := Lib.hid ow.rd
  clear ow t4 H3
  go_wp2_with fail
  refine (sameB_any _ ay aw 64 cy cw (Rt.put ⟨xe, xf, xb⟩) (Rt.put_length _) (by decide) (H4.out.rd (List.mem_cons_of_mem _ List.mem_cons_self)) R4.out).mono ?_
  rintro e v5 ⟨rfl, t5⟩
  have Q1 := (H4.out.no t5).perm (List.perm_append_comm (l₁ := [_, _, _, _]) (l₂ := [_]))
  have Q2 : Sl W0 v5 [Part.room 5 ⟨at', n, ct, 1⟩, _, _, _, _] := Q1.imp1 (fun A h => sl_room (sl_twin h))
  have Q3 := Q2.perm (List.perm_middle (l₁ := [_, _]) (l₂ := [_, _]))
  have Q4 : Sl W0 v5 [Part.room 5 ⟨ay, 64, cy, 2⟩, _, _, _, _] := Q3.imp1 (fun A h => sl_room h)
  have Q5 := Q4.perm ((List.perm_middle (l₁ := [_, _]) (l₂ := [_, _])).trans ((List.Perm.swap _ _ _).cons _))
  have H5 := Lib.hid (Sl.take (B := [⟨at', n, ct, 1⟩, ⟨ay, 64, cy, 2⟩]) Q5)
  clear t5 H4 R4 Q1 Q2 Q3 Q4 Q5
  go_wp2_with fail
  refine (H5.out.apart ?hB bkOk_nil bkOk_nil).mono ?_
  case hB =>
    refine ⟨by simp, fun e he => ?_, fun e he => ?_⟩
    · simp only [List.mem_cons, List.not_mem_nil, or_false] at he
      rcases he with rfl | rfl <;> simp
    · simp only [List.mem_cons, List.not_mem_nil, or_false] at he
      rcases he with rfl | rfl <;> (dsimp only; omega)
  rintro e v7 ⟨rfl, t7⟩
  have T7 := Lib.hid (HT0.out.trans t7)
  clear t7 H5
  go_wp2_with fail
  refine (lives_is v7).mono ?_
  rintro e v8 ⟨rfl, t8⟩
  have T8 := Lib.hid (T7.out.trans t8)
  clear t8 T7
  go_wp2
  go_ret
  exact ⟨rfl, T8.out⟩
end Go.Proofs.YtmjeigceclmdoaaGreatDoor
