/-
  What the laws with a book share: parts read, parts told to the book, the end.
  Package drydockref15 by its own text: a map as a part; New.
-/
import Derived.Test.YtmjeigceclmdoaaGreatDoorK26
import Derived.Test.YtmjeigceclmdoaaGreatDoorK28
import Derived.Test.YtmjeigceclmdoaaGreatDoorK40
import Derived.Test.YtmjeigceclmdoaaGreatDoorK16
import Derived.Test.YtmjeigceclmdoaaGreatDoorK17
import Derived.Test.YtmjeigceclmdoaaGreatDoorK08
namespace Go.Proofs.YtmjeigceclmdoaaGreatDoor
open Go Go.RowKit
set_option linter.unusedVariables false

theorem nums_ints (k : IntKind) (b : List Nat) : ints k (b.map fun (x : Nat) => (x : Int)) = nums k b := by
  simp [ints, nums, List.map_map, Function.comp]
theorem Sl.rd {w0 w : World} {l : List Part} (h : Sl w0 w l) {T : TypeId} {a : Option Addr} {n c : Nat} {vs : List Value} (hp : Part.sl T a n c vs ∈ l) : Rd w a vs := by
  obtain ⟨A, ha, _⟩ := h.mem hp
  exact sl_rd ha
theorem Sl.step {P : Program} {f : FuncId} {args : Array Value} {w0 w1 : World} {l l' m : List Part} {v : Ending} (h : Sl w0 w1 (l ++ m)) (C : ∀ F, Al w1 l F → Calls P f args w1 fun e w' => e = v ∧ TurnsL w1 F l' w') :
    Calls P f args w1 fun e w' => e = v ∧ Sl w0 w' (l' ++ m) := by
  obtain ⟨F, hF, _, hf⟩ := h.frame
  exact (C F hF).mono fun e w' ⟨he, ht⟩ => ⟨he, hf w' l' ht⟩
/-- a part that says less -/
theorem Sl.imp1 {w0 w : World} {p q : Part} {l : List Part} (h : Sl w0 w (p :: l)) (hp : ∀ A, p.P w A → q.P w A) : Sl w0 w (q :: l) := by
  obtain ⟨O, h1, h2, t⟩ := h
  exact ⟨O, h1.imp1 hp, h2, t⟩
theorem Sl.imp2 {w0 w : World} {r p q : Part} {l : List Part} (h : Sl w0 w (r :: p :: l)) (hp : ∀ A, p.P w A → q.P w A) : Sl w0 w (r :: q :: l) :=
  ((h.perm (List.Perm.swap _ _ _)).imp1 hp).perm (List.Perm.swap _ _ _)
/-- a twin: what is told to the book is without the mark -/
theorem sl_twin {w : World} {T : TypeId} {a : Option Addr} {n c : Nat} {vs : List Value} {v : Value} {A : Nat → Prop} (h : (Part.sl T a (n + 1) c (vs ++ [v])).P w A) : (Part.sl T a n c vs).P w A := by
  have h1 := sl_cut h (Nat.le_succ n)
  have hl := (sl_len h).1
  have : (vs ++ [v]).take n = vs := by
    rw [List.length_append] at hl
    have h2 : vs.length = n := by simpa using hl
    rw [← h2, List.take_left]
  rw [this] at h1
  exact h1
theorem Sl.bytes {w0 w : World} {g n : Nat} {B I N D : List HE} {a : Option Addr} {len cap : Nat} {vs : List Value} {m : List Part} (h : Sl w0 w (Part.book g n B I N D :: Part.sl 5 a len cap vs :: m)) (hm : B.length ≤ 100000) (hn : n ≤ 1000000) :
    Calls Tryz.prog 21 #[.pointer (some ⟨g, 0, none⟩), .slice a len cap] w fun e w' => e = .returned (.tuple #[]) ∧ Sl w0 w' (Part.book g (n + 1) (B ++ [⟨a, len, cap, n + 1⟩]) I N D :: m) :=
  Sl.step (l := [_, _]) h (fun F hF => book_bytes w g n B I N D a len cap vs F hF hm hn)
theorem Sl.numbers {w0 w : World} {g n : Nat} {B I N D : List HE} {a : Option Addr} {len cap : Nat} {vs : List Value} {m : List Part} (h : Sl w0 w (Part.book g n B I N D :: Part.sl 21 a len cap vs :: m)) (hm : N.length ≤ 100000) (hn : n ≤ 1000000) :
    Calls Tryz.prog 22 #[.pointer (some ⟨g, 0, none⟩), .slice a len cap] w fun e w' => e = .returned (.tuple #[]) ∧ Sl w0 w' (Part.book g (n + 1) B I (N ++ [⟨a, len, cap, n + 1⟩]) D :: m) :=
  Sl.step (l := [_, _]) h (fun F hF => book_numbers w g n B I N D a len cap vs F hF hm hn)
theorem Sl.ids {w0 w : World} {g n : Nat} {B I N D : List HE} {a : Option Addr} {len cap : Nat} {vs : List Value} {m : List Part} (h : Sl w0 w (Part.book g n B I N D :: Part.sl 23 a len cap vs :: m)) (hm : D.length ≤ 100000) (hn : n ≤ 1000000) :
    Calls Tryz.prog 36 #[.pointer (some ⟨g, 0, none⟩), .slice a len cap] w fun e w' => e = .returned (.tuple #[]) ∧ Sl w0 w' (Part.book g (n + 1) B I N (D ++ [⟨a, len, cap, n + 1⟩]) :: m) :=
  Sl.step (l := [_, _]) h (fun F hF => book_ids w g n B I N D a len cap vs F hF hm hn)
theorem Sl.apart {w0 w : World} {g n : Nat} {B N D : List HE} {m : List Part} (h : Sl w0 w (Part.book g n B [] N D :: m)) (hB : BkOkB B) (hN : BkOk N) (hD : BkOk D) :
    Calls Tryz.prog 23 #[.pointer (some ⟨g, 0, none⟩)] w fun e w' => e = .returned (.bool true) ∧ Touch No w0 w' := by
  have t := h.end
  obtain ⟨A, ha, hA⟩ := h.mem List.mem_cons_self
  exact (apart_any w g n B N D A ha hB hN hD).mono fun e w' ⟨he, ht⟩ => ⟨he, t.then ht (fun i hi hAi => absurd hi (Nat.not_lt.2 (hA i hAi).1))⟩
theorem born_book (w : World) (cs : Array Value) (h : cs.toList = bookCells 0 nilSl nilSl nilSl nilSl) : Born w (Part.book w.heap.size 0 [] [] [] []) (w.alloc (.cells cs 48)) := by
  refine ⟨(Touch.refl No w).alloc _, fun k => k = w.heap.size, book_new ?_, fun k hk => Nat.le_of_eq hk.symm⟩
  have := Row.new w 48 cs
  rw [h] at this
  exact this
theorem born_own {w w' : World} {T : TypeId} {a : Option Addr} {n c : Nat} {vs : List Value} (t : Touch No w w') (h : Own w' w.heap.size T (.slice a n c) vs) : Born w (Part.sl T a n c vs) w' := by
  obtain ⟨a', c', e, hc, _⟩ := h.form
  cases e
  exact born_sl t (Nat.le_refl _) h hc (Nat.le_refl _)
theorem rd_pre {w : World} {a : Option Addr} {vs us : List Value} (h : Rd w a (vs ++ us)) : Rd w a vs := fun i v hi => h i v (by
  have hlt : i < vs.length := by
    rcases Nat.lt_or_ge i vs.length with h | h
    · exact h
    · rw [List.getElem?_eq_none h] at hi; cases hi
  rw [List.getElem?_append_left hlt]; exact hi)
theorem bkOkB_nil : BkOkB [] := ⟨Nat.zero_le _, (fun e h => by cases h), fun e h => by cases h⟩
theorem bkOk_nil : BkOk [] := ⟨Nat.zero_le _, (fun e h => by cases h), fun e h => by cases h⟩
end Go.Proofs.YtmjeigceclmdoaaGreatDoor
namespace Go.Proofs.YtmjeigceclmdoaaGreatDoor
open Go Go.RowKit
set_option linter.unusedSimpArgs false
set_option linter.unusedVariables false

/-- what is owned from a block on, as a part -/
theorem own_sl {w' : World} {base n c : Nat} {T : TypeId} {a : Option Addr} {vs : List Value} (h : Own w' base T (.slice a n c) vs) : ∃ O, (Part.sl T a n c vs).P w' O ∧ ∀ k, O k → base ≤ k := by
  obtain ⟨_, _, e1, hcc, _⟩ := h.form
  injection e1 with _ e2 e3
  subst e3
  obtain ⟨hl, h⟩ := h
  rcases h with ⟨hv, h0⟩ | ⟨g, cp, cur, hv, hg, hh, hn, hm, hs, ht⟩
  · cases hv
    exact ⟨fun _ => False, ⟨h0, by omega, Nat.zero_le _, fun _ f => f.elim, Or.inl rfl⟩, fun _ f => f.elim⟩
  · cases hv
    have hgs : g < w'.heap.size := (Array.getElem?_eq_some_iff.1 hh).1
    refine ⟨fun k => k = g, ⟨by omega, by omega, by omega, fun k hk => by rw [hk]; exact hgs, Or.inr ⟨g, 0, cur, rfl, hh, by omega, rfl, fun i v hi => ?_⟩⟩, fun k hk => by rw [hk]; omega⟩
    rw [← ht, List.getElem?_take] at hi
    split at hi
    · rw [Nat.zero_add]; simpa using hi
    · cases hi
/-- a map of the reference: its cells, and its list in memory of its own -/
def Part.ref (g first many : Nat) (xs : List Nat) : Part where
  P w O := (∃ a n c, Al w [Part.row g 148 [.int .i64 (first : Nat), .int .i64 (many : Nat), .slice a n c], Part.sl 23 a n c (nums .u32 xs)] O) ∧ ∀ k, O k → k < w.heap.size
  stable := fun {F w w' O} ⟨⟨a, n, c, h⟩, hl⟩ t hF => ⟨⟨a, n, c, Al.stable t h hF⟩, fun k hk => Nat.lt_of_lt_of_le (hl k hk) t.size⟩
  lt := fun {w O} h => h.2
theorem Part.ref_at {w : World} {g first many : Nat} {xs : List Nat} {O : Nat → Prop} (h : (Part.ref g first many xs).P w O) (hlo : first ≤ 4096) (hhi : many ≤ 4096) (hlt : ∀ x ∈ xs, x < 4294967296) : ∃ a c, RefAt w g first many a xs.length c xs := by
  obtain ⟨⟨a, n, c, A1, A2, ⟨hrow, _⟩, ⟨A3, _, hs, _⟩, _⟩, _⟩ := h
  obtain ⟨h1, h2, h3⟩ := sl_len hs
  rw [nums_length] at h1
  subst h1
  refine ⟨a, c, hrow, rfl, h2, ?_, sl_rd hs, hlt, hlo, hhi⟩
  unfold maxLen at h3; omega
theorem refNew_bad (w : World) (first many : Int) (hf : -9223372036854775808 ≤ first ∧ first ≤ 9223372036854775807) (hm : -9223372036854775808 ≤ many ∧ many ≤ 9223372036854775807) (h : newBad first many) :
    Calls Tryz.prog 31 #[.int .i64 first, .int .i64 many] w fun e w' => e = .returned (.tuple #[.pointer none, .int .i64 1]) ∧ w = w' := by
  obtain ⟨hf1, hf2⟩ := hf
  obtain ⟨hm1, hm2⟩ := hm
  unfold newBad at h
  by_cases h1 : first < 0
  · clear h
    go_enter Tryz.func31, Tryz.ntmps31
    go_wp2
    go_ret2
    exact ⟨rfl, rfl⟩
  by_cases h2 : many < 0
  · clear h
    go_enter Tryz.func31, Tryz.ntmps31
    go_wp2
    go_ret2
    exact ⟨rfl, rfl⟩
  by_cases h3 : 4096 < first
  · clear h
    go_enter Tryz.func31, Tryz.ntmps31
    go_wp2
    go_ret2
    exact ⟨rfl, rfl⟩
  by_cases h4 : 4096 < many
  · clear h
    go_enter Tryz.func31, Tryz.ntmps31
    go_wp2
    go_ret2
    exact ⟨rfl, rfl⟩
  have h5 : 4096 < first + many := by omega
  have h3' : first ≤ 4096 := by omega
  have h4' : many ≤ 4096 := by omega
  clear h
  go_enter Tryz.func31, Tryz.ntmps31
  go_wp2
  go_ret2
  exact ⟨rfl, rfl⟩
set_option maxRecDepth 100000 in
set_option maxHeartbeats 2000000 in
theorem refNew_ok (w : World) (first many : Nat) (h : first + many ≤ 4096) :
    Calls Tryz.prog 31 #[.int .i64 (first : Nat), .int .i64 (many : Nat)] w fun e w' => ∃ g, e = .returned (.tuple #[.pointer (some ⟨g, 0, none⟩), .int .i64 0]) ∧ Born w (Part.ref g first many (List.range' first many)) w' := by
  obtain ⟨I, hi0, hi1, hi2, hi3⟩ := u32_info
  have HI := Lib.hid (And.intro hi0 (And.intro hi1 (And.intro hi2 hi3)))
  have h1 : (first : Int) ≤ 4096 := by omega
  have h2 : (many : Int) ≤ 4096 := by omega
  have h3 : (first : Int) + (many : Int) ≤ 4096 := by omega
  clear hi0 hi1 hi2 hi3 h
  go_enter Tryz.func31, Tryz.ntmps31
  go_wp2
  obtain ⟨W0, hW0⟩ : ∃ W0, W0 = w.alloc (.cells #[.int .i64 (first : Nat), .int .i64 (many : Nat), .slice none 0 0] 148) := ⟨_, rfl⟩
  obtain ⟨G, hG⟩ : ∃ G, G = w.heap.size := ⟨_, rfl⟩
  have hrow : Row W0 G 148 [.int .i64 (first : Nat), .int .i64 (many : Nat), .slice none 0 0] := by rw [hW0, hG]; exact Row.new w _ _
  have hT0 : Touch No w W0 := by rw [hW0]; exact (Touch.refl No w).alloc _
  have HT0 := Lib.hid hT0
  have HR0 := Lib.hid hrow
  have HG := Lib.hid hG
  rw [← hW0, ← hG]
  clear hW0 hG hrow hT0
  go_loopg [7] many (fun g s7 wr => ∃ (k : Nat) (av : Option Addr) (cv : Nat), k + g = many ∧ s7 = .int .i64 ((k : Nat) : Int) ∧ Hid (Row wr G 148 [.int .i64 (first : Nat), .int .i64 (many : Nat), .slice av k cv]) ∧ Hid (Own wr (G + 1) 23 (.slice av k cv) (nums .u32 (List.range' first k))) ∧ Hid (Touch No w wr))
  case atStart => exact ⟨0, none, 0, by omega, rfl, HR0.out, Own.nil _ _ _, HT0.out⟩
  case round =>
    obtain ⟨k, av, cv, hkg, rfl, R, O, T⟩ := hrel
    cases gk with
    | zero =>
      obtain rfl : k = many := by omega
      have hb : Hid (Born w (Part.ref G first k (List.range' first k)) wr) := by
        have hG1 := HG.out
        have hlw := R.out.lt
        obtain ⟨O2, hs, hge⟩ := own_sl O.out
        refine ⟨T.out, fun i => i = G ∨ O2 i, ⟨⟨av, k, cv, fun i => i = G, O2, ⟨R.out, rfl, fun i hi => by rw [hi]; exact hlw⟩, ⟨O2, fun _ => False, hs, trivial, fun _ _ f => f, fun _ h => h, fun _ f => f.elim⟩, fun i hi h2 => by have := hge i h2; omega, fun i hi => Or.inl hi, fun i hi => Or.inr hi⟩, fun i hi => ?_⟩, fun i hi => ?_⟩
        · rcases hi with rfl | hi
          · exact hlw
          · exact (Part.sl _ _ _ _ _).lt hs i hi
        · rcases hi with rfl | hi
          · omega
          · have := hge i hi; omega
      have HB := Lib.hid hb.out
      clear hb R O T
      go_wp2
      go_ret2
      exact ⟨G, rfl, HB.out⟩
    | succ g' =>
      have hlt : (k : Int) < (many : Nat) := by omega
      have hk4 : (first : Int) + (k : Int) ≤ 4096 := by omega
      have k2 : wr.cell? ⟨G, 2, none⟩ = some (.slice av k cv) := R.out.cell 2
      have f2 := R.out.soft 2
      have hlw : Hid (G + 1 ≤ wr.heap.size) := R.out.lt
      have hne : Hid (¬ InBlock (.slice av k cv) G) := fun e => by have := (O.out.block e).1; omega
      have hlk : Hid ((nums .u32 (List.range' first k)).length = k) := by show _ = _; rw [nums_length, List.length_range']
      go_wp2_with (at_builtin; refine wpList_append1 rfl _ _ _ rfl (G + 1) _ I _ 4 Tryz.underlying67 HI.out.1 HI.out.2.1 HI.out.2.2.1 HI.out.2.2.2 rfl _ _ _ O.out rfl rfl rfl (by rw [hlk.out]; unfold maxLen; omega) (by rw [hlk.out]; omega) hlw.out ?_; intro v' w3 hown3 ht3; obtain ⟨a', c', rfl, _⟩ := hown3.form' (n := k + 1) (by rw [List.length_append, hlk.out]; rfl); have q2 := ht3.cell hne.out k2; have s2 := (ht3.frozen (lt_of_cell k2) hne.out 2).trans f2; have HO := Lib.hid hown3; have HT := Lib.hid ht3; clear hown3 ht3 k2 f2)
      have HE : Hid (nums .u32 (List.range' first (k + 1)) = nums .u32 (List.range' first k) ++ [.int .u32 ((first : Int) + (k : Int))]) := by
        show _ = _
        rw [List.range'_1_concat, nums_append]
        simp [nums]
      go_roundg g'
      case measure => omega
      case rel =>
        refine ⟨k + 1, a', c', by omega, by go_num, (R.out.touch HT.out hne.out).setCell 2 _, ?_, ?_⟩
        · rw [HE.out]
          exact HO.out.touch ((Touch.refl (One G) w3).setCell (p := ⟨G, 2, none⟩) (fun _ => rfl) _) (fun i hi _ hg => by have hg' : i = G := hg; omega)
        · exact (T.out.then HT.out (fun i hi e => by have := (O.out.block e).1; have := HG.out; omega)).setCell (p := ⟨G, 2, none⟩) (fun h => absurd (show G < w.heap.size from h) (by have := HG.out; omega)) _
end Go.Proofs.YtmjeigceclmdoaaGreatDoor
