/-
  Package drydockref03 by its own text: Write.
-/
import Derived.Test.YtkiehoboeiengaaGreatDoorK27
import Derived.Test.YtkiehoboeiengaaGreatDoorK05
import Derived.Deep.DeepCutAuto
namespace Go.Proofs.YtkiehoboeiengaaGreatDoor
open Go Go.RowKit
set_option linter.unusedSimpArgs false
set_option linter.unusedVariables false

set_option maxHeartbeats 1000000 in
theorem refWrite3_bad {w : World} {g : Nat} {D : Dk.Disk} {vs vn vw : Value} (h : RdAt w g D vs vn vw) (n : Int) (a : Option Addr) (l c : Nat) (hb : ¬ (0 ≤ n ∧ n < D.seen.length) ∨ 64 < l) :
    Calls Tryz.prog 64 #[.pointer (some ⟨g, 0, none⟩), .int .i64 n, .slice a l c] w fun e w' => e = .returned (.int .i64 1) ∧ w = w' := by
  obtain ⟨an, cn, rfl, _⟩ := rowSlice h.seen
  have k1 : w.cell? ⟨g, 1, none⟩ = some (.slice an D.seen.length cn) := h.row.cell 1
  obtain ⟨L, hL⟩ : ∃ L, D.seen.length = L := ⟨_, rfl⟩
  rw [hL] at k1 hb
  clear h hL
  by_cases h1 : n < 0
  · clear hb
    go_enter Tryz.func64, Tryz.ntmps64
    go_wp2
    go_ret
    exact ⟨rfl, rfl⟩
  by_cases h2 : (L : Int) ≤ n
  · clear hb
    go_enter Tryz.func64, Tryz.ntmps64
    go_wp2
    go_ret
    exact ⟨rfl, rfl⟩
  have h3 : (64 : Int) < (l : Nat) := by omega
  have h2' : n < (L : Int) := by omega
  have h1' : (0 : Int) ≤ n := by omega
  clear hb h2
  go_enter Tryz.func64, Tryz.ntmps64
  go_wp2
  go_ret
  exact ⟨rfl, rfl⟩
/-- 'out = append(out, x)' of one struct: out is a row that may grow -/
theorem wpList_append_row {P : Program} {w : World} {ops : Array Oper} {rest : List Oper} {o : Oper} {a : Act} {Q : Exit → Act → World → Prop} (hgd : o.guard = none) (s x : Operand) (t : TypeId)
    (ho : o.op = .call { callee := .builtin .append, args := #[s, x], argTypes := #[t, t] })
    (e : TypeId) (i : TypeInfo) (z : Value) (size bytes : Nat) (ht : P.underlying t = some (.slice e)) (hi : P.info? e = some i) (hz : i.zero = some z) (hsize : i.size = size) (hby : i.bytes = bytes) (hzs : z.cells.size = size) (hsz : 0 < size)
    (v : Value) (n : Nat) (vs : List Value) (hown : w.ownsRow 0 e size v n vs) (hs : a.eval s = v) (g : Nat) (news : List Value) (hrd : Row w g e news) (hx : a.eval x = .slice (some ⟨g, 0, none⟩) 1 1) (hl : news.length = size) (h1 : ∀ u ∈ news, u.oneCell' = true)
    (h63 : n + 1 ≤ maxLen) (hbytes : (n + 1) * bytes ≤ 140737488355328)
    (h : ∀ a' c' w', w'.ownsRow 0 e size (.slice a' (n + 1) c') (n + 1) (vs ++ news) → Touch (InBlock v) w w' → (∀ k, InBlock (.slice a' (n + 1) c') k → InBlock v k ∨ w.heap.size ≤ k) → wpList P ops Q rest (a.put o.dst (.slice a' (n + 1) c')) w') : wpList P ops Q (o :: rest) a w :=
  wpList_plain hgd fun _ hK => by
    have := step_append_row (ops := ops) (Q := Q) (E := False) hgd s x t ho e i z size bytes ht hi hz hsize hby hzs hsz v n vs hown hs g news hrd hx hl h1 h63 hbytes (fun a' c' w' p q r => hK _ _ (h a' c' w' p q r))
    rwa [if_pos (by simp [Region.wanted, hgd])] at this
set_option maxRecDepth 100000 in
set_option maxHeartbeats 4000000 in
theorem refWrite3_in (w : World) (g : Nat) (D : Dk.Disk) (A : Nat → Prop) (h : Al w [Part.rdisk g D] A) (n : Nat) (hn : n < D.seen.length) (a : Option Addr) (l c : Nat) (b : List Nat) (hl : b.length = l) (h64 : l ≤ 64) (hlt : ∀ x ∈ b, x < 256) (hr : Rd w a (nums .u8 b)) (hw : D.waits.length ≤ 1000000) :
    Calls Tryz.prog 64 #[.pointer (some ⟨g, 0, none⟩), .int .i64 (n : Nat), .slice a l c] w fun e w' => e = .returned (.int .i64 0) ∧ TurnsL w A [Part.rdisk g (Dk.write D n b)] w' := by
  obtain ⟨I, z, hI⟩ := rwr_is
  obtain ⟨vs, vn, vw, hR, hA⟩ := al_rdisk h
  have HI := Lib.hid hI
  have HR := Lib.hid hR
  have HA := Lib.hid hA
  have hOk := Lib.hid (Dk.write_ok hR.ok hn (by rw [hl]; exact h64) hlt)
  obtain ⟨gn, cn, hvn, hbn, hgl, hfz, _⟩ := rows_at rsCells_length hR.seen rfl (Dk.at_get hn) (by decide)
  obtain ⟨aw, cw, hvw, hcw, _⟩ := rowSlice hR.waits
  subst hvn hvw
  have hgw := hR.row.lt
  have k1 : w.cell? ⟨g, 1, none⟩ = some (.slice (some ⟨gn, 0, none⟩) D.seen.length cn) := hR.row.cell 1
  have k2 : w.cell? ⟨g, 2, none⟩ = some (.slice aw D.waits.length cw) := hR.row.cell 2
  obtain ⟨c0, c1⟩ : (∃ u, w.cell? ⟨gn, n * 2, none⟩ = some u) ∧ ∃ u, w.cell? ⟨gn, n * 2 + 1, none⟩ = some u := by
    obtain ⟨g', c', e, _, _, _, hc⟩ := rows_at rsCells_length hR.seen rfl (Dk.at_get hn) (by decide)
    cases e
    exact ⟨⟨_, hc 0 (by decide)⟩, ⟨_, hc 1 (by decide)⟩⟩
  obtain ⟨u0, c0⟩ := c0
  obtain ⟨u1, c1⟩ := c1
  have hng : ¬ gn = g := fun e => hR.n0 (by rw [← e]; exact hbn)
  obtain ⟨Z, hZ⟩ : ∃ Z, str (List.replicate (64 - l) 0) = Z := ⟨_, rfl⟩
  obtain ⟨B, hB⟩ : ∃ B, str b = B := ⟨_, rfl⟩
  obtain ⟨S, hS⟩ : ∃ S, B ++ Z = S := ⟨_, rfl⟩
  have HS : Hid (S = str (Dk.pad b)) := by
    show S = _
    rw [← hS, ← hB, ← hZ, str_append, Dk.pad, hl]
  have CN : Hid (∀ w, Calls Tryz.prog 58 #[.int .i64 (64 - (l : Int))] w fun e w' => e = .returned (.string Z) ∧ Touch No w w') := fun w => by
    rw [← hZ]
    have := refNoughts3_any w (64 - l) (by omega)
    rwa [show ((64 - l : Nat) : Int) = 64 - (l : Int) from by omega] at this
  have CV : Hid (∀ w', Touch No w w' → (convert 49 9 (.slice a l c)).run Tryz.prog w' = .ok (.string B) w') := fun w' t => by rw [← hB]; exact conv_str w' a l c b hl (hr.no t)
  have hcv0 := CV.out w.drew (Touch.refl No w).drew
  have h64i : (l : Int) ≤ 64 := by omega
  have hsz : ¬ 9223372036854775807 < B.size + Z.size := by rw [← hB, ← hZ, str_size, str_size, List.length_replicate]; omega
  have hwr : IntKind.i64.wrap (64 - (l : Int)) = 64 - (l : Int) := IntWalk.i64_in _ (by omega)
  have hn1 : (n : Int) < D.seen.length := by omega
  have hn0 : ¬ (n : Int) < 0 := by omega
  have htop : (D.seen.length : Int) ≤ 16384 := by have := hR.ok.top; omega
  have hwt : (D.waits.length : Int) ≤ 1000000 := by omega
  obtain ⟨L, hL⟩ : ∃ L, D.seen.length = L := ⟨_, rfl⟩
  obtain ⟨M, hM⟩ : ∃ M, D.waits.length = M := ⟨_, rfl⟩
  have HL := Lib.hid hL
  have HM := Lib.hid hM
  rw [hL] at k1 hn1 htop
  rw [hM] at k2 hwt
  have Hn := Lib.hid hn
  have Hgl := Lib.hid hgl
  have Hbn := Lib.hid hbn
  have Hfz := Lib.hid hfz
  clear hI hR hA h hZ hB hr hlt hl h64 hL hM hw hn hgl hbn hfz
  go_enter Tryz.func64, Tryz.ntmps64
  go_wp2_with fail
  go_region_law (first
    | (go_simp; refine (CN.out _).mono ?_; rintro e w9 ⟨rfl, t9⟩; have T9 := Lib.hid ((Touch.refl No w).drew.trans t9); have hcv9 := CV.out w9 T9.out; clear t9))
  all_goals
    have k1' := T9.out.cell id k1
    have d0 := T9.out.cell id c0
    have d1 := T9.out.cell id c1
    have z0 := (T9.out.frozen Hgl.out id (n * 2)).trans (Hfz.out _)
    have z1 := (T9.out.frozen Hgl.out id (n * 2 + 1)).trans (Hfz.out _)
    have HR9 := Lib.hid (HR.out.no T9.out)
    clear k1 k2 c0 c1 hcv0 hcv9 hS hwr hsz
    go_upto_region 5 with fail
    obtain ⟨W1, hW1⟩ : ∃ W1, W1 = (w9.setCell ⟨gn, n * 2, none⟩ (.string S)).setCell ⟨gn, n * 2 + 1, none⟩ (.bool false) := ⟨_, rfl⟩
    have t1 : Touch (One gn) w9 W1 := by rw [hW1]; exact ((Touch.refl (One gn) w9).setCell (p := ⟨gn, n * 2, none⟩) (fun _ => rfl) _).setCell (p := ⟨gn, n * 2 + 1, none⟩) (fun _ => rfl) _
    have hseen : W1.ownsRow 0 115 2 (.slice (some ⟨gn, 0, none⟩) D.seen.length cn) D.seen.length ((D.seen.set n ⟨Dk.pad b, 0⟩).flatMap rsCells) := by
      have h1 := rows_put rsCells_length HR9.out.seen rfl (i := n) (j := 0) (y := ⟨Dk.pad b, (Dk.at_ D.seen n).bad⟩) (u := .string S) (Dk.at_get Hn.out) (by decide) (by rw [HS.out]; rfl)
      have h2 := rows_put rsCells_length h1 (by simp) (i := n) (j := 1) (x := ⟨Dk.pad b, (Dk.at_ D.seen n).bad⟩) (y := ⟨Dk.pad b, 0⟩) (u := .bool false) (by rw [List.getElem?_set_self Hn.out]) (by decide) rfl
      rw [List.set_set] at h2
      rw [hW1]; exact h2
    have hrow1 : Row W1 g 112 [vs, .slice (some ⟨gn, 0, none⟩) D.seen.length cn, .slice aw D.waits.length cw] := HR9.out.row.touch t1 (fun e => hng (show g = gn from e).symm)
    have hsure1 := rowTouch HR9.out.sure t1 (fun k hk e => HR9.out.sn k hk (by rw [show k = gn from e]; exact Hbn.out))
    have hwait1 : W1.ownsRow 0 130 3 (.slice aw M cw) M (D.waits.flatMap rwCells) := by
      have := rowTouch HR9.out.waits t1 (fun k hk e => HR9.out.nw gn Hbn.out (by rw [← show k = gn from e]; exact hk))
      rw [HM.out] at this; exact this
    have T1 : Touch (RdOf g vs (.slice (some ⟨gn, 0, none⟩) D.seen.length cn) (.slice aw D.waits.length cw)) w W1 := (T9.out.mono (fun _ _ f => f.elim)).then t1 (fun k _ e => by rw [show k = gn from e]; exact Or.inr (Or.inr (Or.inl Hbn.out)))
    rw [← hW1]
    have q2 : ∀ ob, (W1.alloc ob).cell? ⟨g, 2, none⟩ = some (.slice aw M cw) := fun ob => by
      have h3 := ((Touch.refl No W1).alloc ob).cell id (hrow1.cell 2 : W1.cell? ⟨g, 2, none⟩ = some (.slice aw D.waits.length cw))
      rw [HM.out] at h3; exact h3
    have q2' : W1.cell? ⟨g, 2, none⟩ = some (.slice aw M cw) := by
      have h3 : W1.cell? ⟨g, 2, none⟩ = some (.slice aw D.waits.length cw) := hrow1.cell 2
      rw [HM.out] at h3; exact h3
    have f2 := hrow1.soft 2
    have hw0 : Hid (¬ InBlock (.slice aw M cw) g) := fun h => HR9.out.w0 (by rw [HM.out]; exact h)
    have Hrow1 := Lib.hid hrow1
    have Hseen := Lib.hid hseen
    have Hsure := Lib.hid hsure1
    have Hwait := Lib.hid hwait1
    have HT1 := Lib.hid T1
    have hW1s : Hid (w.heap.size ≤ W1.heap.size) := T1.size
    have hg1 := hrow1.lt
    clear d0 d1 z0 z1 k1' hW1 t1 hseen hrow1 hsure1 hwait1 T1
    go_wp2_with (at_builtin; refine wpList_append_row rfl _ _ 110 rfl 130 I z 3 32 Tryz.underlying110 HI.out.info HI.out.zero HI.out.size HI.out.bytes (by rw [HI.out.cells]; rfl) (by decide) _ M _ (rowTouch Hwait.out ((Touch.refl No W1).alloc _) (fun _ _ f => f)) rfl W1.heap.size [.int .i64 (n : Nat), .string S, .bool false] (Row.new W1 _ _) rfl rfl (by intro u hu; simp only [List.mem_cons, List.not_mem_nil, or_false] at hu; rcases hu with rfl | rfl | rfl <;> rfl) (by unfold maxLen; omega) (by omega) ?_; intro a' c' w' hown' ht' hin'; have q3 := ht'.cell hw0.out (q2 (.cells #[.int .i64 (n : Nat), .string S, .bool false] 130)); have f3 := (ht'.frozen (lt_of_cell (q2 (.cells #[.int .i64 (n : Nat), .string S, .bool false] 130))) hw0.out 2).trans ((frozen_old W1 _ hg1).trans f2))
    have FIN : Hid (TurnsL w A [Part.rdisk g (Dk.write D n b)] (w'.setCell ⟨g, 2, none⟩ (.slice a' (M + 1) c'))) := by
      have h0 := HR9.out
      have ta : Touch No W1 (W1.alloc (.cells #[.int .i64 (n : Nat), .string S, .bool false] 130)) := (Touch.refl No W1).alloc _
      have tS : Touch (One g) w' (w'.setCell ⟨g, 2, none⟩ (.slice a' (M + 1) c')) := (Touch.refl (One g) w').setCell (p := ⟨g, 2, none⟩) (fun _ => rfl) _
      have hbs : ∀ k, InBlock vs k → ¬ InBlock (.slice aw M cw) k := fun k hk h => h0.sw k hk (by rw [HM.out]; exact h)
      have hbn : ∀ k, InBlock (.slice (some ⟨gn, 0, none⟩) D.seen.length cn) k → ¬ InBlock (.slice aw M cw) k := fun k hk h => h0.nw k hk (by rw [HM.out]; exact h)
      have hlow : ∀ k, InBlock (.slice a' (M + 1) c') k → InBlock (.slice aw M cw) k ∨ w.heap.size ≤ k := fun k hk => (hin' k hk).imp id (fun h => by have h2 : (W1.alloc (.cells #[.int .i64 (n : Nat), .string S, .bool false] 130)).heap.size ≤ k := h; have := ta.size; have := hW1s.out; omega)
      have hlow2 : ∀ k, InBlock (.slice a' (M + 1) c') k → InBlock (.slice aw M cw) k ∨ W1.heap.size ≤ k := fun k hk => (hin' k hk).imp id (fun h => by have h2 : (W1.alloc (.cells #[.int .i64 (n : Nat), .string S, .bool false] 130)).heap.size ≤ k := h; have := ta.size; omega)
      refine RdAt.turn (vs' := vs) (vn' := .slice (some ⟨gn, 0, none⟩) D.seen.length cn) (vw' := .slice a' (M + 1) c') HA.out ⟨hOk.out, ((Hrow1.out.touch ta id).touch ht' hw0.out).setCell 2 _, ?_, ?_, ?_, h0.s0, h0.n0, fun h => ?_, h0.sn, fun k hk h => ?_, fun k hk h => ?_⟩ ?_ (fun k hk => ?_)
      · exact rowTouch (rowTouch (rowTouch Hsure.out ta (fun _ _ f => f)) ht' hbs) tS (fun k hk e => h0.s0 (by rw [← show k = g from e]; exact hk))
      · show World.ownsRow _ 0 _ 2 _ (D.seen.set n _).length _
        rw [List.length_set]
        exact rowTouch (rowTouch (rowTouch Hseen.out ta (fun _ _ f => f)) ht' hbn) tS (fun k hk e => h0.n0 (by rw [← show k = g from e]; exact hk))
      · show World.ownsRow _ 0 _ 3 _ (D.waits ++ [_]).length ((D.waits ++ [_]).flatMap rwCells)
        rw [List.length_append, List.flatMap_append, HM.out]
        have hc : [(⟨n, Dk.pad b, 0⟩ : Dk.Wr)].flatMap rwCells = [.int .i64 (n : Nat), .string S, .bool false] := by rw [HS.out]; rfl
        rw [hc]
        exact rowTouch hown' tS (fun k hk e => by
          rw [show k = g from e] at hk
          rcases hlow2 g hk with h | h
          · exact hw0.out h
          · omega)
      · rcases hlow2 g h with h | h
        · exact hw0.out h
        · omega
      · rcases hlow2 k h with h | h
        · exact hbs k hk h
        · have := (rowBlock Hsure.out hk).2; omega
      · rcases hlow2 k h with h | h
        · exact hbn k hk h
        · have := (rowBlock Hseen.out hk).2; omega
      · refine ((HT1.out.then ta (fun _ _ f => f.elim)).then ht' (fun k _ hk => ?_)).then tS (fun k _ e => Or.inl e)
        exact Or.inr (Or.inr (Or.inr (by rw [HM.out]; exact hk)))
      · rcases hk with rfl | hk | hk | hk
        · exact Or.inl (Or.inl rfl)
        · exact Or.inl (Or.inr (Or.inl hk))
        · exact Or.inl (Or.inr (Or.inr (Or.inl hk)))
        · exact (hlow k hk).imp (fun h => Or.inr (Or.inr (Or.inr (by rw [HM.out]; exact h)))) id
    clear hown' ht' hin'
    go_wp2
    go_ret
    exact ⟨rfl, FIN.out⟩
/-- Write, whatever is asked for -/
theorem refWrite3_any (w : World) (g : Nat) (D : Dk.Disk) (A : Nat → Prop) (h : Al w [Part.rdisk g D] A) (n : Int) (a : Option Addr) (l c : Nat) (b : List Nat) (hl : b.length = l) (hlt : ∀ x ∈ b, x < 256) (hr : Rd w a (nums .u8 b)) (hw : D.waits.length ≤ 1000000) :
    Calls Tryz.prog 64 #[.pointer (some ⟨g, 0, none⟩), .int .i64 n, .slice a l c] w fun e w' => e = .returned (.int .i64 (Dk.writeR D n b : Nat)) ∧ TurnsL w A [Part.rdisk g (Dk.writeA D n b)] w' := by
  by_cases hc : (0 ≤ n ∧ n < D.seen.length) ∧ b.length ≤ 64
  · rw [Dk.writeR, Dk.writeA, if_pos hc, if_pos hc]
    obtain ⟨m, rfl⟩ : ∃ m : Nat, n = (m : Nat) := ⟨n.toNat, by omega⟩
    exact refWrite3_in w g D A h m (by omega) a l c b hl (by omega) hlt hr hw
  · rw [Dk.writeR, Dk.writeA, if_neg hc, if_neg hc]
    obtain ⟨vs, vn, vw, hR, _⟩ := al_rdisk h
    exact (refWrite3_bad hR n a l c (by
      by_cases h1 : 0 ≤ n ∧ n < D.seen.length
      · exact Or.inr (by
          rcases Nat.lt_or_ge 64 l with h2 | h2
          · exact h2
          · exact absurd ⟨h1, by omega⟩ hc)
      · exact Or.inl h1)).mono fun _ _ ⟨he, e⟩ => ⟨he, e ▸ TurnsL.same h⟩
end Go.Proofs.YtkiehoboeiengaaGreatDoor
