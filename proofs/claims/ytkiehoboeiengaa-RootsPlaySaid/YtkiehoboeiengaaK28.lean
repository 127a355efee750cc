/-
  Package drydockref03 by its own text: noughts, New, Len, Waits.
-/
import Derived.Test.YtkiehoboeiengaaK27
namespace Go.Proofs.Ytkiehoboeiengaa
open Go Go.RowKit
set_option linter.unusedSimpArgs false
set_option linter.unusedVariables false

theorem rsec_is : ∃ i z, TypeIs 83 i z 2 24 [.string (str []), .bool false] := type_is (by kernel_rfl)
theorem rwr_is : ∃ i z, TypeIs 100 i z 3 32 [.int .i64 0, .string (str []), .bool false] := type_is (by kernel_rfl)
theorem flat_unit : ∀ n : Nat, (List.replicate n ()).flatMap (fun (_ : Unit) => [Value.int .u8 0]) = nums .u8 (List.replicate n 0)
  | 0 => rfl
  | n + 1 => by
    rw [List.replicate_succ, List.flatMap_cons, flat_unit n, List.replicate_succ]; rfl
set_option maxHeartbeats 1000000 in
theorem refNoughts3_any (w : World) (n : Nat) (hn : (n : Int) ≤ 64) :
    Calls Try.prog 36 #[.int .i64 (n : Nat)] w fun e w' => e = .returned (.string (str (List.replicate n 0))) ∧ Touch No w w' := by
  obtain ⟨I, hi0, hi1, hi2, hi3⟩ := u8_info
  have hmk : ∀ wx : World, (Instr.makeSlice 34 (.int .i64 (n : Int)) (.int .i64 (n : Int))).run Try.prog wx = .ok (.slice (some ⟨wx.heap.size, 0, none⟩) n n) (wx.alloc (.cells (nums .u8 (List.replicate n 0)).toArray 5)) := fun wx => by
    have := run_make (P := Try.prog) wx 34 5 I (.int .u8 0) Try.underlying34 hi0 hi1 .i64 .i64 (n : Int) (n : Int) (by omega) (by omega) (by rw [hi3]; omega) (by omega)
    rw [this, hi2, Int.toNat_natCast]
    have e := made_flat (f := fun (_ : Unit) => [Value.int .u8 0]) (k := 1) (fun _ => rfl) (by decide) () n
    rw [flat_unit] at e
    rw [← e]; rfl
  have hcv : (convert 34 9 (.slice (some ⟨w.heap.size, 0, none⟩) n n)).run Try.prog (w.alloc (.cells (nums .u8 (List.replicate n 0)).toArray 5)) = .ok (.string (str (List.replicate n 0))) (w.alloc (.cells (nums .u8 (List.replicate n 0)).toArray 5)) :=
    conv_str _ _ n n _ (by simp) (by have := rd_new w 5 (nums .u8 (List.replicate n 0)).toArray (0, 0); simpa using this)
  clear hi0 hi1 hi2 hi3
  go_enter Try.func36, Try.ntmps36
  go_wp2
  go_ret
  exact ⟨rfl, (Touch.refl No w).alloc _⟩
theorem refLen_at {w : World} {g : Nat} {D : Dk.Disk} {vs vn vw : Value} (h : RdAt w g D vs vn vw) :
    Calls Try.prog 65 #[.pointer (some ⟨g, 0, none⟩)] w fun e w' => e = .returned (.int .i64 (D.seen.length : Nat)) ∧ w = w' := by
  obtain ⟨a, c, rfl, _⟩ := rowSlice h.seen
  have k1 : w.cell? ⟨g, 1, none⟩ = some (.slice a D.seen.length c) := h.row.cell 1
  clear h
  go_enter Try.func65, Try.ntmps65
  go_wp2
  go_ret
  exact ⟨rfl, rfl⟩
theorem refWaits_at {w : World} {g : Nat} {D : Dk.Disk} {vs vn vw : Value} (h : RdAt w g D vs vn vw) :
    Calls Try.prog 23 #[.pointer (some ⟨g, 0, none⟩)] w fun e w' => e = .returned (.int .i64 (D.waits.length : Nat)) ∧ w = w' := by
  obtain ⟨a, c, rfl, _⟩ := rowSlice h.waits
  have k1 : w.cell? ⟨g, 2, none⟩ = some (.slice a D.waits.length c) := h.row.cell 2
  clear h
  go_enter Try.func23, Try.ntmps23
  go_wp2
  go_ret
  exact ⟨rfl, rfl⟩
theorem refNew3_bad (w : World) (n : Int) (h : n < 1 ∨ 16384 < n) : Calls Try.prog 9 #[.int .i64 n] w fun e w' => e = .returned (.tuple #[.pointer none, .int .i64 1]) ∧ w = w' := by
  by_cases h1 : n < 1
  · clear h
    go_enter Try.func9, Try.ntmps9
    go_wp2
    go_ret2
    exact ⟨rfl, rfl⟩
  · have h2 : 16384 < n := by omega
    clear h
    go_enter Try.func9, Try.ntmps9
    go_wp2
    go_ret2
    exact ⟨rfl, rfl⟩
/-- a copy of a row of sectors: new memory -/
theorem rows_new {w' : World} {base n : Nat} {T : TypeId} {size : Nat} {v : Value} {xs : List Value} (h : w'.ownsRow base T size v n xs) : w'.ownsRow 0 T size v n xs := by
  obtain ⟨q1, q2⟩ := h
  exact ⟨q1, q2.imp id (fun ⟨g, cap, cur, r1, _, r2⟩ => ⟨g, cap, cur, r1, Nat.zero_le _, r2⟩)⟩
/-- 'append([]E(nil), row...)': a copy, in new memory -/
theorem wpList_copy_rows {P : Program} {w : World} {ops : Array Oper} {rest : List Oper} {o : Oper} {a : Act} {Q : Exit → Act → World → Prop} (hgd : o.guard = none) (s x : Operand) (t : TypeId)
    (ho : o.op = .call { callee := .builtin .append, args := #[s, x], argTypes := #[t, t] })
    (e : TypeId) (i : TypeInfo) (z : Value) (size bytes : Nat) (ht : P.underlying t = some (.slice e)) (hi : P.info? e = some i) (hz : i.zero = some z) (hsize : i.size = size) (hby : i.bytes = bytes) (hzs : z.cells.size = size) (hsz : 0 < size)
    (v : Value) (n : Nat) (cs : List Value) (hs : a.eval s = .slice none 0 0) (hown : w.ownsRow 0 e size v n cs) (hx : a.eval x = v) (h0 : 0 < n) (h1 : ∀ u ∈ cs, u.oneCell' = true)
    (h63 : n ≤ maxLen) (hbytes : n * bytes ≤ 140737488355328)
    (h : ∀ a' c' w', w'.ownsRow w.heap.size e size (.slice a' n c') n cs → Touch No w w' → wpList P ops Q rest (a.put o.dst (.slice a' n c')) w') : wpList P ops Q (o :: rest) a w := by
  obtain ⟨hl, hh⟩ := hown
  rcases hh with ⟨_, h00⟩ | ⟨g, cap, cur, rfl, hg, hheap, hcap, hmax, hs2, ht2⟩
  · omega
  · refine wpList_append_own w hgd s x t ho w.heap.size e i z size bytes ht hi hz hsize hby hzs hsz (.slice none 0 0) 0 [] hs ⟨by simp, Or.inl ⟨rfl, rfl⟩⟩ ⟨g, 0, none⟩ n cap cs hx hl (fun j u hj => ?_) h1 (by omega) (by rw [Nat.zero_add]; exact hbytes) (Nat.le_refl _) fun v' w' h2 h3 h4 => ?_
    · have hj' : j < n * size := by
        rcases Nat.lt_or_ge j cs.length with h | h
        · omega
        · rw [List.getElem?_eq_none h] at hj; cases hj
      rw [add_off, Nat.zero_add]
      simp only [World.cell?]; rw [hheap]
      rw [← ht2, List.getElem?_take_of_lt hj'] at hj
      simpa using hj
    · rw [Nat.zero_add, List.nil_append] at h2
      obtain ⟨a', c', rfl, _, _⟩ := rowSlice h2
      exact h a' c' w' h2 ((Touch.refl _ w).grown h3 (fun k hk _ => by cases hk))
set_option maxRecDepth 100000 in
set_option maxHeartbeats 4000000 in
theorem refNew3_ok (w : World) (n : Nat) (h1 : 1 ≤ n) (hn : n ≤ 16384) :
    Calls Try.prog 9 #[.int .i64 (n : Nat)] w fun e w' => ∃ g, e = .returned (.tuple #[.pointer (some ⟨g, 0, none⟩), .int .i64 0]) ∧ Born w (Part.rdisk g (Dk.new n)) w' := by
  obtain ⟨I, z, hI⟩ := rsec_is
  have HI := Lib.hid hI
  have g1 : ¬ (n : Int) < 1 := by omega
  have g2 : ¬ (16384 : Int) < (n : Int) := by omega
  have hn' : (n : Int) ≤ 16384 := by omega
  have H1 := Lib.hid h1
  obtain ⟨Z, hZ⟩ : ∃ Z, str (List.replicate 64 0) = Z := ⟨_, rfl⟩
  have CN : Hid (∀ w, Calls Try.prog 36 #[.int .i64 64] w fun e w' => e = .returned (.string Z) ∧ Touch No w w') := fun w => by rw [← hZ]; exact refNoughts3_any w 64 (by decide)
  have HZ := Lib.hid hZ
  clear hI h1 hZ
  go_enter Try.func9, Try.ntmps9
  go_wp2
  obtain ⟨W0, hW0⟩ : ∃ W0, W0 = w.alloc (.cells #[.slice none 0 0, .slice none 0 0, .slice none 0 0] 80) := ⟨_, rfl⟩
  obtain ⟨G, hG⟩ : ∃ G, G = w.heap.size := ⟨_, rfl⟩
  have HR0 : Hid (Row W0 G 80 [nilSl, nilSl, nilSl]) := by show Row _ _ _ _; rw [hW0, hG]; exact Row.new w _ _
  have HT0 : Hid (Touch No w W0) := by show Touch _ _ _; rw [hW0]; exact (Touch.refl No w).alloc _
  have HG := Lib.hid hG
  rw [← hW0, ← hG]
  clear hW0 hG
  go_loopg [5] n (fun g s5 wr => ∃ (k : Nat) (vs : Value), k + g = n ∧ Hid (∀ i, InBlock vs i → G < i) ∧ s5 = .int .i64 ((k : Nat) : Int) ∧ Hid (Row wr G 80 [vs, nilSl, nilSl]) ∧ Hid (wr.ownsRow 0 83 2 vs k ((List.replicate k Dk.noughts).flatMap rsCells)) ∧ Hid (Touch No w wr))
  case atStart => exact ⟨0, nilSl, by omega, (fun i h => by cases h), rfl, HR0.out, ⟨rfl, Or.inl ⟨rfl, rfl⟩⟩, HT0.out⟩
  case round =>
    obtain ⟨k, vs, hkg, Low, rfl, R, O, T⟩ := hrel
    obtain ⟨ab, cb, rfl, hcb, _⟩ := rowSlice O.out
    have hne : Hid (¬ InBlock (.slice ab k cb) G) := fun e => by have := Low.out G e; omega
    have k0 : wr.cell? ⟨G, 0, none⟩ = some (.slice ab k cb) := R.out.cell 0
    have f0 := R.out.soft 0
    cases gk with
    | zero =>
      obtain rfl : k = n := by omega
      have hgs := R.out.lt
      go_wp2_with (at_builtin; refine wpList_copy_rows rfl _ _ 77 rfl 83 I z 2 24 Try.underlying77 HI.out.info HI.out.zero HI.out.size HI.out.bytes (by rw [HI.out.cells]; rfl) (by decide) _ k _ rfl O.out rfl H1.out (rsCells_one _) (by unfold maxLen; omega) (by omega) ?_; intro a' c' w' hown' ht'; have k1 := ht'.cell id (R.out.cell 1 : wr.cell? ⟨G, 1, none⟩ = some nilSl); have f1 := (ht'.frozen hgs id 1).trans (R.out.soft 1))
      have hR : Row (w'.setCell ⟨G, 1, none⟩ (.slice a' k c')) G 80 [.slice ab k cb, .slice a' k c', nilSl] := (R.out.touch ht' id).setCell 1 _
      have tS : Touch (One G) w' (w'.setCell ⟨G, 1, none⟩ (.slice a' k c')) := (Touch.refl (One G) w').setCell (p := ⟨G, 1, none⟩) (fun _ => rfl) _
      have hB : ∀ i, InBlock (.slice a' k c') i → wr.heap.size ≤ i := fun i hi => (rowBlock hown' hi).1
      have hA : RdAt (w'.setCell ⟨G, 1, none⟩ (.slice a' k c')) G (Dk.new k) (.slice ab k cb) (.slice a' k c') nilSl := by
        have el : (List.replicate k Dk.noughts).length = k := List.length_replicate
        refine ⟨Dk.new_ok H1.out hn, hR, ?_, ?_, ⟨rfl, Or.inl ⟨rfl, rfl⟩⟩, hne.out, fun h => ?_, (fun h => by cases h), fun i h h' => ?_, (fun i _ h => by cases h), (fun i _ h => by cases h)⟩
        · show World.ownsRow _ 0 _ 2 _ (List.replicate k Dk.noughts).length _
          rw [el]
          exact rowTouch (rowTouch O.out ht' (fun _ _ f => f)) tS (fun i hi e => by rw [show i = G from e] at hi; exact hne.out hi)
        · show World.ownsRow _ 0 _ 2 _ (List.replicate k Dk.noughts).length _
          rw [el]
          exact rowTouch (rows_new hown') tS (fun i hi e => by rw [show i = G from e] at hi; have := hB G hi; omega)
        · have := hB G h; omega
        · have := hB i h'; have := (rowBlock O.out h).2; omega
      have hb : Born w (Part.rdisk G (Dk.new k)) (w'.setCell ⟨G, 1, none⟩ (.slice a' k c')) := by
        refine ⟨(T.out.trans ht').then tS (fun i hi e => absurd hi (by rw [show i = G from e, ← HG.out]; exact Nat.lt_irrefl _)), _, hA.part, fun i hi => ?_⟩
        rw [← HG.out]
        rcases hi with rfl | h | h | h
        · exact Nat.le_refl _
        · exact Nat.le_of_lt (Low.out i h)
        · have := hB i h; omega
        · cases h
      have HB := Lib.hid hb
      clear hb hA hB tS hR hown' ht'
      go_wp2
      go_ret2
      exact ⟨G, rfl, HB.out⟩
    | succ g' =>
      have hlt : (k : Int) < (n : Nat) := by omega
      have hgs := R.out.lt
      have k0d : wr.drew.cell? ⟨G, 0, none⟩ = some (.slice ab k cb) := k0
      go_wp2_with fail
      go_region_law (first
        | (go_simp; refine (CN.out _).mono ?_; rintro e w9 ⟨rfl, t9⟩; have T9 := Lib.hid ((Touch.refl No wr).drew.trans t9); have k9 := T9.out.cell id k0; have k9a : ∀ ob, (w9.alloc ob).cell? ⟨G, 0, none⟩ = some (.slice ab k cb) := fun ob => (T9.out.alloc ob).cell id k0; clear t9)
        | (refine step_append_row rfl _ _ _ rfl 83 I z 2 24 Try.underlying77 HI.out.info HI.out.zero HI.out.size HI.out.bytes (by rw [HI.out.cells]; rfl) (by decide) _ k _ (rowTouch O.out (T9.out.alloc _) (fun _ _ f => f)) rfl w9.heap.size [.string Z, .bool false] (Row.new w9 _ _) rfl rfl (by intro u hu; simp only [List.mem_cons, List.not_mem_nil, or_false] at hu; rcases hu with rfl | rfl <;> rfl) (by unfold maxLen; omega) (by omega) ?_; intro a' c' w' hown' ht' hin'; have k10 := ht'.cell hne.out (k9a (.cells #[.string Z, .bool false] 83)); have f10 := (ht'.frozen (lt_of_cell (k9a (.cells #[.string Z, .bool false] 83))) hne.out 0).trans (((T9.out.alloc (.cells #[.string Z, .bool false] 83)).frozen (lt_of_cell k0) id 0).trans f0)))
      all_goals
        have R2 := Lib.hid (((R.out.touch (T9.out.alloc (.cells #[.string Z, .bool false] 83)) id).touch ht' hne.out).setCell 0 (.slice a' (k + 1) c'))
        have Low2 : Hid (∀ i, InBlock (.slice a' (k + 1) c') i → G < i) := fun i hi => (hin' i hi).elim (Low.out i) (fun h => by have := (T9.out.alloc (.cells #[.string Z, .bool false] 83)).size; have h2 : (w9.alloc (.cells #[.string Z, .bool false] 83)).heap.size ≤ i := h; omega)
        have tS : Touch (One G) w' (w'.setCell ⟨G, 0, none⟩ (.slice a' (k + 1) c')) := (Touch.refl (One G) w').setCell (p := ⟨G, 0, none⟩) (fun _ => rfl) _
        have O2 : Hid ((w'.setCell ⟨G, 0, none⟩ (.slice a' (k + 1) c')).ownsRow 0 83 2 (.slice a' (k + 1) c') (k + 1) ((List.replicate (k + 1) Dk.noughts).flatMap rsCells)) := by
          have e : (List.replicate (k + 1) Dk.noughts).flatMap rsCells = (List.replicate k Dk.noughts).flatMap rsCells ++ [.string Z, .bool false] := by
            rw [List.replicate_succ', List.flatMap_append, ← HZ.out]; simp [rsCells, Dk.noughts]
          show World.ownsRow _ _ _ _ _ _ _
          rw [e]
          exact rowTouch hown' tS (fun i hi e => by have := Low2.out i hi; rw [show i = G from e] at this; omega)
        have T2 : Hid (Touch No w (w'.setCell ⟨G, 0, none⟩ (.slice a' (k + 1) c'))) := by
          refine ((T.out.trans (T9.out.alloc _)).then ht' (fun i hi e => ?_)).then tS (fun i hi e => absurd hi (by rw [show i = G from e, ← HG.out]; exact Nat.lt_irrefl _))
          have := Low.out i e
          rw [HG.out] at this; omega
        clear hown' ht' hin' tS
        go_wp2_with fail
        go_roundg g'
        case measure => omega
        case rel => exact ⟨k + 1, _, by omega, Low2.out, by go_num, R2.out, O2.out, T2.out⟩
end Go.Proofs.Ytkiehoboeiengaa
