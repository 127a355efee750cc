/-
  Package drydockref03 by its own text: noughts, New, Len, Waits.
  Package drydockref03 by its own text: Read, Sync.
-/
import Derived.Test.YtkiehoboeiengaaGreatDoorK26
import Derived.Test.YtkiehoboeiengaaGreatDoorK10
import Derived.Laws.IdiomStrings
namespace Go.Proofs.YtkiehoboeiengaaGreatDoor
open Go Go.RowKit
set_option linter.unusedSimpArgs false
set_option linter.unusedVariables false

theorem rsec_is : ∃ i z, TypeIs 115 i z 2 24 [.string (str []), .bool false] := type_is (by kernel_rfl)
theorem rwr_is : ∃ i z, TypeIs 130 i z 3 32 [.int .i64 0, .string (str []), .bool false] := type_is (by kernel_rfl)
theorem flat_unit : ∀ n : Nat, (List.replicate n ()).flatMap (fun (_ : Unit) => [Value.int .u8 0]) = nums .u8 (List.replicate n 0)
  | 0 => rfl
  | n + 1 => by
    rw [List.replicate_succ, List.flatMap_cons, flat_unit n, List.replicate_succ]; rfl
set_option maxHeartbeats 1000000 in
theorem refNoughts3_any (w : World) (n : Nat) (hn : (n : Int) ≤ 64) :
    Calls Tryz.prog 58 #[.int .i64 (n : Nat)] w fun e w' => e = .returned (.string (str (List.replicate n 0))) ∧ Touch No w w' := by
  obtain ⟨I, hi0, hi1, hi2, hi3⟩ := u8_info
  have hmk : ∀ wx : World, (Instr.makeSlice 49 (.int .i64 (n : Int)) (.int .i64 (n : Int))).run Tryz.prog wx = .ok (.slice (some ⟨wx.heap.size, 0, none⟩) n n) (wx.alloc (.cells (nums .u8 (List.replicate n 0)).toArray 5)) := fun wx => by
    have := run_make (P := Tryz.prog) wx 49 5 I (.int .u8 0) Tryz.underlying49 hi0 hi1 .i64 .i64 (n : Int) (n : Int) (by omega) (by omega) (by rw [hi3]; omega) (by omega)
    rw [this, hi2, Int.toNat_natCast]
    have e := made_flat (f := fun (_ : Unit) => [Value.int .u8 0]) (k := 1) (fun _ => rfl) (by decide) () n
    rw [flat_unit] at e
    rw [← e]; rfl
  have hcv : (convert 49 9 (.slice (some ⟨w.heap.size, 0, none⟩) n n)).run Tryz.prog (w.alloc (.cells (nums .u8 (List.replicate n 0)).toArray 5)) = .ok (.string (str (List.replicate n 0))) (w.alloc (.cells (nums .u8 (List.replicate n 0)).toArray 5)) :=
    conv_str _ _ n n _ (by simp) (by have := rd_new w 5 (nums .u8 (List.replicate n 0)).toArray (0, 0); simpa using this)
  clear hi0 hi1 hi2 hi3
  go_enter Tryz.func58, Tryz.ntmps58
  go_wp2
  go_ret
  exact ⟨rfl, (Touch.refl No w).alloc _⟩
theorem refLen_at {w : World} {g : Nat} {D : Dk.Disk} {vs vn vw : Value} (h : RdAt w g D vs vn vw) :
    Calls Tryz.prog 153 #[.pointer (some ⟨g, 0, none⟩)] w fun e w' => e = .returned (.int .i64 (D.seen.length : Nat)) ∧ w = w' := by
  obtain ⟨a, c, rfl, _⟩ := rowSlice h.seen
  have k1 : w.cell? ⟨g, 1, none⟩ = some (.slice a D.seen.length c) := h.row.cell 1
  clear h
  go_enter Tryz.func153, Tryz.ntmps153
  go_wp2
  go_ret
  exact ⟨rfl, rfl⟩
theorem refNew3_bad (w : World) (n : Int) (h : n < 1 ∨ 16384 < n) : Calls Tryz.prog 8 #[.int .i64 n] w fun e w' => e = .returned (.tuple #[.pointer none, .int .i64 1]) ∧ w = w' := by
  by_cases h1 : n < 1
  · clear h
    go_enter Tryz.func8, Tryz.ntmps8
    go_wp2
    go_ret2
    exact ⟨rfl, rfl⟩
  · have h2 : 16384 < n := by omega
    clear h
    go_enter Tryz.func8, Tryz.ntmps8
    go_wp2
    go_ret2
    exact ⟨rfl, rfl⟩
/-- a copy of a row of sectors: new memory -/
theorem rows_new {w' : World} {base n : Nat} {T : TypeId} {size : Nat} {v : Value} {xs : List Value} (h : w'.ownsRow base T size v n xs) : w'.ownsRow 0 T size v n xs := by
  obtain ⟨q1, q2⟩ := h
  exact ⟨q1, q2.imp id (fun ⟨g, cap, cur, r1, _, r2⟩ => ⟨g, cap, cur, r1, Nat.zero_le _, r2⟩)⟩
/-- 'append([]E(nil), row...)': a copy, in new memory -/
theorem wpList_copy_rows {P : Program} {w : World} {ops : Array Oper} {rest : List Oper} {o : Oper} {a : Act} {Q : Exit → Act → World → Prop} (hgd : o.guard = none) (s x : Operand) (t : TypeId)
    (ho : o.op = .call { callee := .builtin .append, args := #[s, x], argTypes := #[t, t] })
    (e : TypeId) (i : TypeInfo) (z : Value) (size bytes : Nat) (ht : P.underlying t = some (.slice e)) (hi : P.info? e = some i) (hz : i.zero = some z) (hsize : i.size = size) (hby : i.bytes = bytes) (hzs : z.cells.size = size) (hsz : 0 < size)
    (v : Value) (n : Nat) (cs : List Value) (hs : a.eval s = .slice none 0 0) (hown : w.ownsRow 0 e size v n cs) (hx : a.eval x = v) (h0 : 0 < n) (h1 : ∀ u ∈ cs, u.oneCell' = true)
    (h63 : n ≤ maxLen) (hbytes : n * bytes ≤ 140737488355328)
    (h : ∀ a' c' w', w'.ownsRow w.heap.size e size (.slice a' n c') n cs → Touch No w w' → wpList P ops Q rest (a.put o.dst (.slice a' n c')) w') : wpList P ops Q (o :: rest) a w := by
  obtain ⟨hl, hh⟩ := hown
  rcases hh with ⟨_, h00⟩ | ⟨g, cap, cur, rfl, hg, hheap, hcap, hmax, hs2, ht2⟩
  · omega
  · refine wpList_append_own w hgd s x t ho w.heap.size e i z size bytes ht hi hz hsize hby hzs hsz (.slice none 0 0) 0 [] hs ⟨by simp, Or.inl ⟨rfl, rfl⟩⟩ ⟨g, 0, none⟩ n cap cs hx hl (fun j u hj => ?_) h1 (by omega) (by rw [Nat.zero_add]; exact hbytes) (Nat.le_refl _) fun v' w' h2 h3 h4 => ?_
    · have hj' : j < n * size := by
        rcases Nat.lt_or_ge j cs.length with h | h
        · omega
        · rw [List.getElem?_eq_none h] at hj; cases hj
      rw [add_off, Nat.zero_add]
      simp only [World.cell?]; rw [hheap]
      rw [← ht2, List.getElem?_take_of_lt hj'] at hj
      simpa using hj
    · rw [Nat.zero_add, List.nil_append] at h2
      obtain ⟨a', c', rfl, _, _⟩ := rowSlice h2
      exact h a' c' w' h2 ((Touch.refl _ w).grown h3 (fun k hk _ => by cases hk))
set_option maxRecDepth 100000 in
set_option maxHeartbeats 4000000 in
theorem refNew3_ok (w : World) (n : Nat) (h1 : 1 ≤ n) (hn : n ≤ 16384) :
    Calls Tryz.prog 8 #[.int .i64 (n : Nat)] w fun e w' => ∃ g, e = .returned (.tuple #[.pointer (some ⟨g, 0, none⟩), .int .i64 0]) ∧ Born w (Part.rdisk g (Dk.new n)) w' := by
  obtain ⟨I, z, hI⟩ := rsec_is
  have HI := Lib.hid hI
  have g1 : ¬ (n : Int) < 1 := by omega
  have g2 : ¬ (16384 : Int) < (n : Int) := by omega
  have hn' : (n : Int) ≤ 16384 := by omega
  have H1 := Lib.hid h1
  obtain ⟨Z, hZ⟩ : ∃ Z, str (List.replicate 64 0) = Z := ⟨_, rfl⟩
  have CN : Hid (∀ w, Calls Tryz.prog 58 #[.int .i64 64] w fun e w' => e = .returned (.string Z) ∧ Touch No w w') := fun w => by rw [← hZ]; exact refNoughts3_any w 64 (by decide)
  have HZ := Lib.hid hZ
  clear hI h1 hZ
  go_enter Tryz.func8, Tryz.ntmps8
  go_wp2
  obtain ⟨W0, hW0⟩ : ∃ W0, W0 = w.alloc (.cells #[.slice none 0 0, .slice none 0 0, .slice none 0 0] 112) := ⟨_, rfl⟩
  obtain ⟨G, hG⟩ : ∃ G, G = w.heap.size := ⟨_, rfl⟩
  have HR0 : Hid (Row W0 G 112 [nilSl, nilSl, nilSl]) := by show Row _ _ _ _; rw [hW0, hG]; exact Row.new w _ _
  have HT0 : Hid (Touch No w W0) := by show Touch _ _ _; rw [hW0]; exact (Touch.refl No w).alloc _
  have HG := Lib.hid hG
  rw [← hW0, ← hG]
  clear hW0 hG
  go_loopg [5] n (fun g s5 wr => ∃ (k : Nat) (vs : Value), k + g = n ∧ Hid (∀ i, InBlock vs i → G < i) ∧ s5 = .int .i64 ((k : Nat) : Int) ∧ Hid (Row wr G 112 [vs, nilSl, nilSl]) ∧ Hid (wr.ownsRow 0 115 2 vs k ((List.replicate k Dk.noughts).flatMap rsCells)) ∧ Hid (Touch No w wr))
  case atStart => exact ⟨0, nilSl, by omega, (fun i h => by cases h), rfl, HR0.out, ⟨rfl, Or.inl ⟨rfl, rfl⟩⟩, HT0.out⟩
  case round =>
    obtain ⟨k, vs, hkg, Low, rfl, R, O, T⟩ := hrel
    obtain ⟨ab, cb, rfl, hcb, _⟩ := rowSlice O.out
    have hne : Hid (¬ InBlock (.slice ab k cb) G) := fun e => by have := Low.out G e; omega
    have k0 : wr.cell? ⟨G, 0, none⟩ = some (.slice ab k cb) := R.out.cell 0
    have f0 := R.out.soft 0
    cases gk with
    | zero =>
      obtain rfl : k = n := by omega
      have hgs := R.out.lt
      go_wp2_with (at_builtin; refine wpList_copy_rows rfl _ _ 109 rfl 115 I z 2 24 Tryz.underlying109 HI.out.info HI.out.zero HI.out.size HI.out.bytes (by rw [HI.out.cells]; rfl) (by decide) _ k _ rfl O.out rfl H1.out (rsCells_one _) (by unfold maxLen; omega) (by omega) ?_; intro a' c' w' hown' ht'; have k1 := ht'.cell id (R.out.cell 1 : wr.cell? ⟨G, 1, none⟩ = some nilSl); have f1 := (ht'.frozen hgs id 1).trans (R.out.soft 1))
      have hR : Row (w'.setCell ⟨G, 1, none⟩ (.slice a' k c')) G 112 [.slice ab k cb, .slice a' k c', nilSl] := (R.out.touch ht' id).setCell 1 _
      have tS : Touch (One G) w' (w'.setCell ⟨G, 1, none⟩ (.slice a' k c')) := (Touch.refl (One G) w').setCell (p := ⟨G, 1, none⟩) (fun _ => rfl) _
      have hB : ∀ i, InBlock (.slice a' k c') i → wr.heap.size ≤ i := fun i hi => (rowBlock hown' hi).1
      have hA : RdAt (w'.setCell ⟨G, 1, none⟩ (.slice a' k c')) G (Dk.new k) (.slice ab k cb) (.slice a' k c') nilSl := by
        have el : (List.replicate k Dk.noughts).length = k := List.length_replicate
        refine ⟨Dk.new_ok H1.out hn, hR, ?_, ?_, ⟨rfl, Or.inl ⟨rfl, rfl⟩⟩, hne.out, fun h => ?_, (fun h => by cases h), fun i h h' => ?_, (fun i _ h => by cases h), (fun i _ h => by cases h)⟩
        · show World.ownsRow _ 0 _ 2 _ (List.replicate k Dk.noughts).length _
          rw [el]
          exact rowTouch (rowTouch O.out ht' (fun _ _ f => f)) tS (fun i hi e => by rw [show i = G from e] at hi; exact hne.out hi)
        · show World.ownsRow _ 0 _ 2 _ (List.replicate k Dk.noughts).length _
          rw [el]
          exact rowTouch (rows_new hown') tS (fun i hi e => by rw [show i = G from e] at hi; have := hB G hi; omega)
        · have := hB G h; omega
        · have := hB i h'; have := (rowBlock O.out h).2; omega
      have hb : Born w (Part.rdisk G (Dk.new k)) (w'.setCell ⟨G, 1, none⟩ (.slice a' k c')) := by
        refine ⟨(T.out.trans ht').then tS (fun i hi e => absurd hi (by rw [show i = G from e, ← HG.out]; exact Nat.lt_irrefl _)), _, hA.part, fun i hi => ?_⟩
        rw [← HG.out]
        rcases hi with rfl | h | h | h
        · exact Nat.le_refl _
        · exact Nat.le_of_lt (Low.out i h)
        · have := hB i h; omega
        · cases h
      have HB := Lib.hid hb
      clear hb hA hB tS hR hown' ht'
      go_wp2
      go_ret2
      exact ⟨G, rfl, HB.out⟩
    | succ g' =>
      have hlt : (k : Int) < (n : Nat) := by omega
      have hgs := R.out.lt
      have k0d : wr.drew.cell? ⟨G, 0, none⟩ = some (.slice ab k cb) := k0
      go_wp2_with fail
      go_region_law (first
        | (go_simp; refine (CN.out _).mono ?_; rintro e w9 ⟨rfl, t9⟩; have T9 := Lib.hid ((Touch.refl No wr).drew.trans t9); have k9 := T9.out.cell id k0; have k9a : ∀ ob, (w9.alloc ob).cell? ⟨G, 0, none⟩ = some (.slice ab k cb) := fun ob => (T9.out.alloc ob).cell id k0; clear t9)
        | (refine step_append_row rfl _ _ _ rfl 115 I z 2 24 Tryz.underlying109 HI.out.info HI.out.zero HI.out.size HI.out.bytes (by rw [HI.out.cells]; rfl) (by decide) _ k _ (rowTouch O.out (T9.out.alloc _) (fun _ _ f => f)) rfl w9.heap.size [.string Z, .bool false] (Row.new w9 _ _) rfl rfl (by intro u hu; simp only [List.mem_cons, List.not_mem_nil, or_false] at hu; rcases hu with rfl | rfl <;> rfl) (by unfold maxLen; omega) (by omega) ?_; intro a' c' w' hown' ht' hin'; have k10 := ht'.cell hne.out (k9a (.cells #[.string Z, .bool false] 115)); have f10 := (ht'.frozen (lt_of_cell (k9a (.cells #[.string Z, .bool false] 115))) hne.out 0).trans (((T9.out.alloc (.cells #[.string Z, .bool false] 115)).frozen (lt_of_cell k0) id 0).trans f0)))
      all_goals
        have R2 := Lib.hid (((R.out.touch (T9.out.alloc (.cells #[.string Z, .bool false] 115)) id).touch ht' hne.out).setCell 0 (.slice a' (k + 1) c'))
        have Low2 : Hid (∀ i, InBlock (.slice a' (k + 1) c') i → G < i) := fun i hi => (hin' i hi).elim (Low.out i) (fun h => by have := (T9.out.alloc (.cells #[.string Z, .bool false] 115)).size; have h2 : (w9.alloc (.cells #[.string Z, .bool false] 115)).heap.size ≤ i := h; omega)
        have tS : Touch (One G) w' (w'.setCell ⟨G, 0, none⟩ (.slice a' (k + 1) c')) := (Touch.refl (One G) w').setCell (p := ⟨G, 0, none⟩) (fun _ => rfl) _
        have O2 : Hid ((w'.setCell ⟨G, 0, none⟩ (.slice a' (k + 1) c')).ownsRow 0 115 2 (.slice a' (k + 1) c') (k + 1) ((List.replicate (k + 1) Dk.noughts).flatMap rsCells)) := by
          have e : (List.replicate (k + 1) Dk.noughts).flatMap rsCells = (List.replicate k Dk.noughts).flatMap rsCells ++ [.string Z, .bool false] := by
            rw [List.replicate_succ', List.flatMap_append, ← HZ.out]; simp [rsCells, Dk.noughts]
          show World.ownsRow _ _ _ _ _ _ _
          rw [e]
          exact rowTouch hown' tS (fun i hi e => by have := Low2.out i hi; rw [show i = G from e] at this; omega)
        have T2 : Hid (Touch No w (w'.setCell ⟨G, 0, none⟩ (.slice a' (k + 1) c'))) := by
          refine ((T.out.trans (T9.out.alloc _)).then ht' (fun i hi e => ?_)).then tS (fun i hi e => absurd hi (by rw [show i = G from e, ← HG.out]; exact Nat.lt_irrefl _))
          have := Low.out i e
          rw [HG.out] at this; omega
        clear hown' ht' hin' tS
        go_wp2_with fail
        go_roundg g'
        case measure => omega
        case rel => exact ⟨k + 1, _, by omega, Low2.out, by go_num, R2.out, O2.out, T2.out⟩
end Go.Proofs.YtkiehoboeiengaaGreatDoor
namespace Go.Proofs.YtkiehoboeiengaaGreatDoor
open Go Go.RowKit
set_option linter.unusedSimpArgs false
set_option linter.unusedVariables false

theorem conv_bytes (w : World) (xs : List Nat) (hx : ∀ x ∈ xs, x < 256) (n : Nat) (hn : xs.length = n) : ∃ c w', (convert 9 49 (.string (str xs))).run Tryz.prog w = .ok (.slice (some ⟨w.heap.size, 0, none⟩) n c) w' ∧ Touch No w w' ∧ Rd w' (some ⟨w.heap.size, 0, none⟩) (nums .u8 xs) ∧ n ≤ c := by
  subst hn
  refine ⟨grownCap w xs.length 0 5, w.drew.alloc (.cells (bytesRow (str xs) (grownCap w xs.length 0 5)) 5 ((bytesRow (str xs) (grownCap w xs.length 0 5)).size, (bytesRow (str xs) (grownCap w xs.length 0 5)).size + 1)), ?_, (Touch.refl No w).drew.alloc _, ?_, grownCap_ge _ _ _ _⟩
  · have := run_bytes_of_string (P := Tryz.prog) w 9 49 5 (str xs) Tryz.underlying9 Tryz.underlying49 Tryz.underlying5
    rw [str_size] at this
    exact this
  · have h := rd_new w.drew 5 (bytesRow (str xs) (grownCap w xs.length 0 5)) ((bytesRow (str xs) (grownCap w xs.length 0 5)).size, (bytesRow (str xs) (grownCap w xs.length 0 5)).size + 1)
    have e : (bytesRow (str xs) (grownCap w xs.length 0 5)).toList = nums .u8 xs ++ List.replicate (grownCap w xs.length 0 5 - (str xs).size) (.int .u8 0) := by
      rw [bytesRow, Array.toList_append, Array.toList_replicate]
      congr 1
      simp only [str, strOfNums, Array.toList_map, nums, List.map_map]
      refine List.map_congr_left (fun x hxm => ?_)
      have h1 := hx x hxm
      simp only [Function.comp, Int.toNat_natCast]
      congr 1
      rw [UInt8.toNat_ofNat']
      simp only [Nat.mod_eq_of_lt (show x < 2 ^ 8 from h1)]
    rw [e] at h
    exact rd_pre h
set_option maxHeartbeats 1000000 in
theorem refRead3_out {w : World} {g : Nat} {D : Dk.Disk} {vs vn vw : Value} (h : RdAt w g D vs vn vw) (n : Int) (hb : ¬ (0 ≤ n ∧ n < D.seen.length)) :
    Calls Tryz.prog 69 #[.pointer (some ⟨g, 0, none⟩), .int .i64 n] w fun e w' => e = .returned (.tuple #[.slice none 0 0, .int .i64 1]) ∧ w = w' := by
  obtain ⟨a, c, rfl, _⟩ := rowSlice h.seen
  have k1 : w.cell? ⟨g, 1, none⟩ = some (.slice a D.seen.length c) := h.row.cell 1
  obtain ⟨L, hL⟩ : ∃ L, D.seen.length = L := ⟨_, rfl⟩
  rw [hL] at k1 hb
  clear h hL
  by_cases h1 : n < 0
  · clear hb
    go_enter Tryz.func69, Tryz.ntmps69
    go_wp2
    go_ret2
    exact ⟨rfl, rfl⟩
  · have h2 : (L : Int) ≤ n := by omega
    clear hb
    go_enter Tryz.func69, Tryz.ntmps69
    go_wp2
    go_ret2
    exact ⟨rfl, rfl⟩
set_option maxRecDepth 100000 in
set_option maxHeartbeats 2000000 in
theorem refRead3_in {w : World} {g : Nat} {D : Dk.Disk} {vs vn vw : Value} (h : RdAt w g D vs vn vw) (n : Nat) (hn : n < D.seen.length) :
    Calls Tryz.prog 69 #[.pointer (some ⟨g, 0, none⟩), .int .i64 (n : Nat)] w fun e w' => ∃ a l c r, e = .returned (.tuple #[.slice a l c, .int .i64 (r : Nat)]) ∧ Rd w' a (nums .u8 (Dk.bytesOf (Dk.at_ D.seen n))) ∧ (Dk.bytesOf (Dk.at_ D.seen n)).length = l ∧ r = Dk.errOf (Dk.at_ D.seen n) ∧ Touch No w w' ∧ l ≤ c := by
  obtain ⟨gn, c, hv, _, hgl, _, hcell⟩ := rows_at rsCells_length h.seen rfl (Dk.at_get hn) (by decide)
  have k1 : w.cell? ⟨g, 1, none⟩ = some (.slice (some ⟨gn, 0, none⟩) D.seen.length c) := by have := h.row.cell 1; rw [← hv]; exact this
  have hok := h.ok.seen _ (Dk.at_mem hn)
  have c0 : w.cell? ⟨gn, n * 2, none⟩ = some (.string (str (Dk.at_ D.seen n).b)) := hcell 0 (by decide)
  have c1 : w.cell? ⟨gn, n * 2 + 1, none⟩ = some (.bool ((Dk.at_ D.seen n).bad == 1)) := hcell 1 (by decide)
  have hn1 : (n : Int) < D.seen.length := by omega
  have hn0 : ¬ (n : Int) < 0 := by omega
  have htop := h.ok.top
  have htop' : (D.seen.length : Int) ≤ 16384 := by omega
  obtain ⟨S, hS⟩ : ∃ S, Dk.at_ D.seen n = S := ⟨_, rfl⟩
  obtain ⟨L, hL⟩ : ∃ L, D.seen.length = L := ⟨_, rfl⟩
  rw [hS] at c0 c1 hok ⊢
  rw [hL] at k1 hn1 htop'
  have hlt := hok.b.lt
  have hlen := hok.b.len
  clear h hcell hS hL hv htop hn hgl
  by_cases hb : S.bad = 1
  · rw [Dk.bytesOf, Dk.errOf, if_pos hb, if_pos hb]
    rw [hb] at c1
    have c1' : w.cell? ⟨gn, n * 2 + 1, none⟩ = some (.bool true) := c1
    clear c1 hb hok c0
    go_enter Tryz.func69, Tryz.ntmps69
    go_wp2
    go_ret2
    exact ⟨none, 0, 0, 12, rfl, Rd.nil _ _, rfl, rfl, Touch.refl _ _, Nat.le_refl _⟩
  · rw [Dk.bytesOf, Dk.errOf, if_neg hb, if_neg hb]
    have hb0 : (S.bad == 1) = false := by simpa using hb
    rw [hb0] at c1
    obtain ⟨B, hB⟩ : ∃ B, str S.b = B := ⟨_, rfl⟩
    obtain ⟨cc, w1, hcv, t1, r1, hcc⟩ := conv_bytes w S.b hlt 64 hlen
    have Hcc := Lib.hid hcc
    clear hcc
    rw [hB] at hcv c0
    have T1 := Lib.hid t1
    have R1 := Lib.hid r1
    have Hlen := Lib.hid hlen
    clear t1 r1 hB hlt hb hb0 hok hlen
    go_enter Tryz.func69, Tryz.ntmps69
    go_wp2
    go_ret2
    exact ⟨_, 64, cc, 0, rfl, R1.out, Hlen.out, rfl, T1.out, Hcc.out⟩
end Go.Proofs.YtkiehoboeiengaaGreatDoor
