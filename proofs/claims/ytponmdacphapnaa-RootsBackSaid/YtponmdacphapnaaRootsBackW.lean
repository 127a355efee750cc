/-
  Package drydocklaw17 by its own text: the walk of RootsBack.
-/
import Derived.Test.YtponmdacphapnaaRootL
namespace Go.Proofs.Ytponmdacphapnaa
open Go Go.RowKit
set_option linter.unusedSimpArgs false

theorem Rd.set {w : World} {g o : Nat} {vs : List Value} (h : Rd w (some ⟨g, o, none⟩) vs) {p : Nat} (hp : p < vs.length) (v : Value) : Rd (w.setCell ⟨g, o + p, none⟩ v) (some ⟨g, o, none⟩) (vs.set p v) := by
  intro i u hi
  refine ⟨g, o, rfl, ?_⟩
  rw [List.getElem?_set] at hi
  by_cases e : p = i
  · subst e
    rw [if_pos rfl, if_pos hp] at hi
    obtain ⟨g', o', e', hc⟩ := h p vs[p] (List.getElem?_eq_getElem hp)
    cases e'
    rw [cell_set hc]; exact hi
  · rw [if_neg e] at hi
    obtain ⟨g', o', e', hc⟩ := h i u hi
    cases e'
    rw [cell_set_ne (Or.inr (by omega))]; exact hc
theorem Own.soft {w : World} {base : Nat} {T : TypeId} {g o n c : Nat} {vs : List Value} (h : Own w base T (.slice (some ⟨g, o, none⟩) n c) vs) (k : Nat) : w.frozen? ⟨g, k, none⟩ = false := by
  obtain ⟨_, h⟩ := h
  rcases h with ⟨h, _⟩ | ⟨g', cap, cur, hv, _, hh, _⟩
  · cases h
  · cases hv
    have hR : Row w g T cur.toList := by rw [Row, Array.toArray_toList]; exact hh
    exact hR.soft k

set_option maxRecDepth 100000 in
set_option maxHeartbeats 8000000 in
theorem rootsBack_walk (w : World) (xe xf xb at' by' : Nat) (h1 : xe < 4294967296) (h2 : xf < 4294967296) (h3 : xb < 4294967296) (ha : at' < 256) (hb : by' < 256) :
    Calls Try.prog 3 #[.agg #[.int .u32 (xe : Nat), .int .u32 (xf : Nat), .int .u32 (xb : Nat)], .int .u8 (at' : Nat), .int .u8 (by' : Nat)] w (LawPost w) := by
  have Hok : Hid (Rt.Root.Ok ⟨xe, xf, xb⟩) := ⟨h1, h2, h3⟩
  have he0 : Hid (Rt.errOf (Rt.put ⟨xe, xf, xb⟩) = 0 ∧ Rt.rootOf (Rt.put ⟨xe, xf, xb⟩) = ⟨xe, xf, xb⟩) := ⟨Rt.put_err _, Rt.put_root Hok.out⟩
  clear h1 h2 h3
  go_enter Try.func3, Try.ntmps3
  go_wp2_with fail
  obtain ⟨W, hW⟩ : ∃ W, W = w.alloc (.cells #[.int .u32 (xe : Nat), .int .u32 (xf : Nat), .int .u32 (xb : Nat)] 24) := ⟨_, rfl⟩
  have tW : Touch No w W := by rw [hW]; exact (Touch.refl No w).alloc _
  have hr0 : Row W w.heap.size 24 [.int .u32 (xe : Nat), .int .u32 (xf : Nat), .int .u32 (xb : Nat)] := by rw [hW]; exact Row.new w _ _
  obtain ⟨B, hB⟩ : ∃ B, B = w.heap.size := ⟨_, rfl⟩
  rw [← hB] at hr0 ⊢
  rw [← hW]
  have HB := Lib.hid hB
  have HR := Lib.hid hr0
  have HT := Lib.hid tW
  clear hW hB hr0 tW
  refine (rootPut_any W ⟨xe, xf, xb⟩ Hok.out).mono ?_
  rintro e w2 ⟨a2, c2, rfl, o2, t2⟩
  have hrd := o2.rd
  obtain ⟨gb, ob, rfl, hcb⟩ := hrd.num (i := 0) (by rw [Rt.put_length]; decide)
  have hcc : 64 ≤ c2 ∧ (c2 : Int) ≤ 9223372036854775807 := by
    obtain ⟨a', c', e', h1, _, _, h2⟩ := o2.form' (n := 64) (by rw [nums_length]; rfl)
    cases e'
    obtain ⟨_, hh⟩ := o2
    rcases hh with ⟨hh, _⟩ | ⟨g', cap, cur, hv, _, _, _, hc, _⟩
    · cases hh
    · cases hv; unfold maxLen at hc; omega
  have hgb : W.heap.size ≤ gb := (o2.block (k := gb) rfl).1
  have hBW : B < W.heap.size := HR.out.lt
  have hne : ¬ gb = B := by omega
  have hsf := fun k => o2.soft k
  have HRd := Lib.hid hrd
  have Hsf := Lib.hid hsf
  have Hgb := Lib.hid hgb
  have T2 := Lib.hid (HT.out.trans t2)
  have R2 := Lib.hid (HR.out.touch t2 id)
  have Hcc := Lib.hid hcc
  clear o2 t2 hrd hcb hcc hgb hBW hsf
  go_wp2_with fail
  refine (rootGet_any w2 _ 64 c2 _ (Rt.put_length _) Hcc.out.1 Hcc.out.2 HRd.out (Rt.put_lt _)).mono ?_
  rw [he0.out.1, he0.out.2]
  rintro e w3 ⟨rfl, t3⟩
  have R3 := R2.out.touch t3 id
  have k0 : w3.cell? ⟨B, 0, none⟩ = some (.int .u32 (xe : Nat)) := R3.cell 0
  have k1 : w3.cell? ⟨B, 1, none⟩ = some (.int .u32 (xf : Nat)) := R3.cell 1
  have k2 : w3.cell? ⟨B, 2, none⟩ = some (.int .u32 (xb : Nat)) := R3.cell 2
  have hB3 : B < w3.heap.size := R3.lt
  obtain ⟨p, hp⟩ : ∃ p, at' % 64 = p := ⟨_, rfl⟩
  have hp1 : (at' : Int) % 64 = (p : Nat) := by omega
  have hp64 : p < 64 := by omega
  clear hp
  have hRd3 := HRd.out.no t3
  obtain ⟨g', o', e', hcell⟩ := hRd3.num (i := p) (by rw [Rt.put_length]; exact hp64)
  cases e'
  obtain ⟨v, hv⟩ : ∃ v, (Rt.put ⟨xe, xf, xb⟩).getD p 0 = v := ⟨_, rfl⟩
  rw [hv] at hcell
  have hv256 : v < 256 := by
    rw [← hv, List.getD_eq_getElem?_getD, List.getElem?_eq_getElem (by rw [Rt.put_length]; exact hp64)]
    exact Rt.put_lt _ _ (List.getElem_mem _)
  obtain ⟨u, hu⟩ : ∃ u, v ^^^ by' = u := ⟨_, rfl⟩
  have hx : bits BinOp.xor .u8 (v : Int) (by' : Int) = (u : Nat) := by rw [← hu]; exact u8_xor_nat v by' hv256 hb
  have hu256 : u < 256 := by rw [← hu]; exact Nat.xor_lt_two_pow (n := 8) hv256 hb
  have hfz : w3.frozen? ⟨gb, ob + p, none⟩ = false := (t3.frozen (lt_of_cell (HRd.out.num (i := p) (by rw [Rt.put_length]; exact hp64)).choose_spec.choose_spec.2 |> fun h => by
    obtain ⟨g', o', e', hc⟩ := HRd.out.num (i := p) (by rw [Rt.put_length]; exact hp64)
    cases e'; exact lt_of_cell hc) id (ob + p)).trans (Hsf.out _)
  have Hu := Lib.hid hu
  have Hv := Lib.hid hv
  have HR3 := Lib.hid R3
  have HRd3 := Lib.hid hRd3
  have T3 := Lib.hid (T2.out.trans t3)
  have hgbl : gb < w3.heap.size := lt_of_cell hcell
  clear hu hv R3 hRd3 t3
  obtain ⟨b', hb'⟩ : ∃ b', b' = (Rt.put ⟨xe, xf, xb⟩).set p u := ⟨_, rfl⟩
  have hlb : b'.length = 64 := by rw [hb', List.length_set]; exact Rt.put_length _
  have hltb : ∀ x ∈ b', x < 256 := by
    rw [hb']
    intro x hx
    rcases List.mem_or_eq_of_mem_set hx with h | h
    · exact Rt.put_lt _ x h
    · rw [h]; exact hu256
  have hsame : Hid (by' = 0 → b' = Rt.put ⟨xe, xf, xb⟩) := fun h0 => by
    have huv : u = v := by rw [← Hu.out, h0, Nat.xor_zero]
    rw [hb', huv, ← Hv.out]
    refine List.ext_getElem? (fun j => ?_)
    rw [List.getElem?_set]
    by_cases e : p = j
    · subst e
      have hl : p < (Rt.put ⟨xe, xf, xb⟩).length := by rw [Rt.put_length]; exact hp64
      rw [if_pos rfl, if_pos hl, List.getD_eq_getElem?_getD, List.getElem?_eq_getElem hl]; rfl
    · rw [if_neg e]
  have hother : Hid (by' ≠ 0 → (Rt.errOf b' = 4 ∨ Rt.errOf b' = 11) ∧ Rt.rootOf b' = ⟨0, 0, 0⟩) := fun h0 => by
    have hne' : u ≠ (Rt.put ⟨xe, xf, xb⟩).getD p 0 := by
      rw [Hv.out]
      intro h
      apply h0
      have h2 : v ^^^ by' = v ^^^ 0 := by rw [Nat.xor_zero, Hu.out, h]
      exact Rt.xor_cancel h2
    rw [hb']
    exact ⟨Rt.turned_err _ hp64 hu256 hne', Rt.turned_root _ hp64 hu256 hne'⟩
  have hrb : Rd (w3.setCell ⟨gb, ob + p, none⟩ (.int .u8 (u : Nat))) (some ⟨gb, ob, none⟩) (nums .u8 b') := by
    have := HRd3.out.set (p := p) (by rw [nums_length, Rt.put_length]; exact hp64) (.int .u8 (u : Nat))
    rw [nums, ← List.map_set (f := fun (x : Nat) => Value.int .u8 (x : Int)) (a := u), ← hb'] at this
    exact this
  have tset : Touch (One gb) w3 (w3.setCell ⟨gb, ob + p, none⟩ (.int .u8 (u : Nat))) := (Touch.refl (One gb) w3).setCell (p := ⟨gb, ob + p, none⟩) (fun _ => rfl) _
  have hal : ∀ o : Obj, Touch (One gb) w3 ((w3.setCell ⟨gb, ob + p, none⟩ (.int .u8 (u : Nat))).alloc o) := fun o => tset.alloc o
  have HRb := Lib.hid hrb
  have Hal := Lib.hid hal
  have HHb := Lib.hid hlb
  have Hltb := Lib.hid hltb
  have hgB : ¬ One gb B := fun e => hne (show B = gb from e).symm
  have HgB := Lib.hid hgB
  have Hwg : Hid (w.heap.size ≤ gb) := by
    show _ ≤ _
    have := Hgb.out
    have h2 := HT.out.size
    omega
  clear hb' hlb hltb hrb tset hal hgB
  go_wp2_with fail
  obtain ⟨W4, hW4⟩ : ∃ W4, W4 = (w3.setCell ⟨gb, ob + p, none⟩ (.int .u8 (u : Nat))).alloc (.cells #[.int .u32 (xe : Nat), .int .u32 (xf : Nat), .int .u32 (xb : Nat)] 24) := ⟨_, rfl⟩
  have rW4 : Row W4 B 24 [.int .u32 (xe : Nat), .int .u32 (xf : Nat), .int .u32 (xb : Nat)] := by rw [hW4]; exact HR3.out.touch (Hal.out _) HgB.out
  have tW4 : Touch No w W4 := by
    rw [hW4]
    exact T3.out.then (Hal.out _) (fun i hi e => by
      have h2 : i = gb := e
      have h3 := Hwg.out
      omega)
  have dW4 : Rd W4 (some ⟨gb, ob, none⟩) (nums .u8 b') := by rw [hW4]; exact HRb.out.no ((Touch.refl No _).alloc _)
  first | rw [← hW4] | skip
  have RW4 := Lib.hid rW4
  have TW4 := Lib.hid tW4
  clear rW4 tW4 k0 k1 k2
  refine (rootGet_any _ _ 64 c2 b' HHb.out Hcc.out.1 Hcc.out.2 dW4 Hltb.out).mono ?_
  by_cases h0 : by' = 0
  · rw [hsame.out h0, he0.out.1, he0.out.2]
    subst h0
    rintro e w5 ⟨rfl, t5⟩
    have R5 := RW4.out.touch t5 id
    have k0 : w5.cell? ⟨B, 0, none⟩ = some (.int .u32 (xe : Nat)) := R5.cell 0
    have k1 : w5.cell? ⟨B, 1, none⟩ = some (.int .u32 (xf : Nat)) := R5.cell 1
    have k2 : w5.cell? ⟨B, 2, none⟩ = some (.int .u32 (xb : Nat)) := R5.cell 2
    have hB5 : B < w5.heap.size := R5.lt
    have T5 := Lib.hid (TW4.out.trans t5)
    clear R5 t5 dW4
    go_wp2_with fail
    refine (lives_is _).mono ?_
    rintro e w6 ⟨rfl, t6⟩
    have T6 := Lib.hid ((T5.out.alloc _).trans t6)
    clear t6
    go_wp2
    go_ret
    exact ⟨rfl, T6.out⟩
  · have hh := hother.out h0
    have hb0 : ((by' : Int) == 0) = false := by simp; omega
    obtain ⟨er, her⟩ : ∃ er, Rt.errOf b' = er := ⟨_, rfl⟩
    rw [hh.2, her]
    have hne0 : ((er : Int) != 0) = true := by
      rw [her] at hh
      simp; omega
    clear hh her h0
    rintro e w5 ⟨rfl, t5⟩
    have R5 := RW4.out.touch t5 id
    have hB5 : B < w5.heap.size := R5.lt
    have T5 := Lib.hid (TW4.out.trans t5)
    clear R5 t5 dW4
    go_wp2_with fail
    refine (lives_is _).mono ?_
    rintro e w6 ⟨rfl, t6⟩
    have T6 := Lib.hid ((T5.out.alloc _).trans t6)
    clear t6
    go_wp2
    go_ret
    exact ⟨rfl, T6.out⟩
end Go.Proofs.Ytponmdacphapnaa
