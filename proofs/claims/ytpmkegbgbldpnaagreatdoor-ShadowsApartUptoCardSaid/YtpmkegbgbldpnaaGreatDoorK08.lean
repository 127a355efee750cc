/-
  What the walks of a book's functions share. No program in sight.
  Package drydocklaw01 by its own text: a book's lists of bytes, filled with marks.
  The plain mathematics of roots: numbers as four bytes, sums of bytes, a root's bytes. No program in sight.
-/
import Derived.Test.YtpmkegbgbldpnaaGreatDoorK06
import Derived.Test.YtpmkegbgbldpnaaGreatDoorK07
import Derived.Test.YtpmkegbgbldpnaaGreatDoorK04
import Derived.StillTailTactics
import Derived.Test.YtpmkegbgbldpnaaGreatDoorK01
import Derived.KernelRfl
namespace Go.Proofs.YtpmkegbgbldpnaaGreatDoor
open Go Go.RowKit
set_option linter.unusedVariables false

theorem perm_mid {α : Type} (a b : α) (T : List α) (x : α) (D : List α) : (a :: b :: (T ++ x :: D)).Perm (x :: a :: b :: (T ++ D)) := by
  have h : (a :: b :: (T ++ x :: D)).Perm (a :: b :: x :: (T ++ D)) := (List.perm_middle.cons b).cons a
  exact h.trans (((List.Perm.swap x b _).cons a).trans (List.Perm.swap x a _))
/-- what the arr part says of the i-th element -/
theorem arr_at {w : World} {T : TypeId} {v : Value} {B : List HE} {O : Nat → Prop} (h : (Part.arr T v B.length (heNew B)).P w O) {i : Nat} (hi : i < B.length) :
    ∃ gb cb, v = .slice (some ⟨gb, 0, none⟩) B.length cb ∧ O gb ∧ w.cell? ⟨gb, i * 3, none⟩ = some (.slice B[i].a B[i].n B[i].c) ∧ w.cell? ⟨gb, i * 3 + 1, none⟩ = some nilSl ∧ w.cell? ⟨gb, i * 3 + 2, none⟩ = some (.int .i64 (B[i].k : Nat)) := by
  obtain ⟨⟨hl, hh⟩, hin, _⟩ := h
  rcases hh with ⟨_, h0⟩ | ⟨gb, cb, cur, hv, _, hh, hn, hc, hs, ht⟩
  · omega
  · have hc : ∀ j, j < 3 → w.cell? ⟨gb, i * 3 + j, none⟩ = (B[i].cells nilSl)[j]? := fun j hj => by
      have h1 : (heNew B)[i * 3 + j]? = (B[i].cells nilSl)[j]? := by
        have hd : B = B.take i ++ B[i] :: B.drop (i + 1) := by rw [← List.drop_eq_getElem_cons hi, List.take_append_drop]
        have h2 : heNew B = heNew (B.take i) ++ (B[i].cells nilSl ++ heNew (B.drop (i + 1))) := by
          have h3 : heNew (B.take i ++ B[i] :: B.drop (i + 1)) = heNew (B.take i) ++ (B[i].cells nilSl ++ heNew (B.drop (i + 1))) := by rw [heNew, List.flatMap_append, List.flatMap_cons]; rfl
          rw [← hd] at h3; exact h3
        rw [h2, List.getElem?_append_right (by rw [heNew_length, List.length_take]; omega), heNew_length, List.length_take, show i * 3 + j - min i B.length * 3 = j by omega, List.getElem?_append_left (by rw [HE.cells_length]; exact hj)]
      rw [← h1, ← ht, List.getElem?_take, if_pos (by omega)]
      simp only [World.cell?, hh]
      simp
    exact ⟨gb, cb, hv, hin gb (by rw [hv]; rfl), hc 0 (by decide), hc 1 (by decide), hc 2 (by decide)⟩
theorem TurnsL.comp {w w1 w2 : World} {O O' : Nat → Prop} {l : List Part} (t : Touch O w w1) (hin : ∀ k, O' k → O k ∨ w.heap.size ≤ k) (h : TurnsL w1 O' l w2) : TurnsL w O l w2 := by
  obtain ⟨t2, O2, h3, h4⟩ := h
  refine ⟨t.then t2 (fun i hi hO => (hin i hO).elim id (fun h => absurd hi (Nat.not_lt.2 h))), O2, h3, fun i hi => ?_⟩
  rcases h4 i hi with h | h
  · exact hin i h
  · exact Or.inr (Nat.le_trans t.size h)
theorem take_next {vs : List Value} {k : Nat} {x : Value} (h : vs.take k = List.replicate k x) (hk : k < vs.length) : (vs.set k x).take (k + 1) = List.replicate (k + 1) x := by
  rw [List.take_succ_eq_append_getElem (by rw [List.length_set]; exact hk), List.take_set_of_le (Nat.le_refl _), h, List.getElem_set_self, List.replicate_succ']
theorem perm_mid3 {α : Type} (a b : α) (T : List α) (x : α) (D : List α) : (a :: b :: (T ++ x :: D)).Perm (a :: b :: x :: (T ++ D)) := (List.perm_middle.cons b).cons a
theorem zip_snoc {α β γ : Type} (f : α → β → γ) {xs : List α} {ys : List β} (h : xs.length = ys.length) (a : α) (b : β) : List.zipWith f (xs ++ [a]) (ys ++ [b]) = List.zipWith f xs ys ++ [f a b] := by
  rw [List.zipWith_append h]; rfl
theorem zip_get {α β γ : Type} (f : α → β → γ) {xs : List α} {ys : List β} {i : Nat} {a : α} {b : β} (ha : xs[i]? = some a) (hb : ys[i]? = some b) : f a b ∈ List.zipWith f xs ys := by
  apply List.mem_of_getElem? (i := i)
  rw [List.getElem?_zipWith, ha, hb]
end Go.Proofs.YtpmkegbgbldpnaaGreatDoor
namespace Go.Proofs.YtpmkegbgbldpnaaGreatDoor
open Go Go.RowKit
set_option linter.unusedSimpArgs false

def mkB (k : Nat) : Value := .int .u8 ((k % 256 : Nat) : Int)
theorem markByte_any (w : World) (k : Nat) (hk : k ≤ 1000000) : Calls Tryz.prog 189 #[.int .i64 (k : Nat)] w fun e w' => e = .returned (mkB k) ∧ w' = w := by
  have hk' : (k : Int) ≤ 1000000 := by omega
  go_enter Tryz.func189, Tryz.ntmps189
  go_wp2
  go_ret
  exact ⟨rfl, rfl⟩
set_option maxRecDepth 100000 in
set_option maxHeartbeats 4000000 in
theorem fillByte_any (w : World) (g n : Nat) (vB vI vN vD : Value) (B : List HE) (O : Nat → Prop) (h : Al w (Part.row g 88 (bookCells n vB vI vN vD) :: Part.arr 253 vB B.length (heNew B) :: B.map (Part.room 5)) O) (hO : ∀ k, O k → k < w.heap.size) (hm : B.length ≤ 100000) (hk : ∀ e ∈ B, e.k ≤ 1000000) :
    Calls Tryz.prog 98 #[.pointer (some ⟨g, 0, none⟩)] w fun e w' => e = .returned (.tuple #[]) ∧ TurnsL w O (Part.row g 88 (bookCells n vB vI vN vD) :: Part.arr 253 vB B.length (heNew B) :: B.map (Part.full 5 mkB)) w' := by
  obtain ⟨m, hmB⟩ : ∃ m, B.length = m := ⟨_, rfl⟩
  have hm' : (m : Int) ≤ 100000 := by omega
  have H0 := Lib.hid h
  have HO := Lib.hid hO
  have HK := Lib.hid hk
  have HM := Lib.hid hmB
  clear h hO hk hmB
  go_enter Tryz.func98, Tryz.ntmps98
  go_wp2
  go_loopg [2] m (fun gk s2 wr => ∃ i : Nat, i + gk = m ∧ s2 = .int .i64 ((i : Nat) : Int) ∧ Hid (TurnsL w O (Part.row g 88 (bookCells n vB vI vN vD) :: Part.arr 253 vB B.length (heNew B) :: ((B.take i).map (Part.full 5 mkB) ++ (B.drop i).map (Part.room 5))) wr))
  case atStart =>
    exact ⟨0, by omega, rfl, TurnsL.same H0.out⟩
  case round =>
    obtain ⟨i, hi, rfl, hT⟩ := hrel
    obtain ⟨ht, O', hA, hin⟩ := hT.out
    obtain ⟨A1, hrow, hA1⟩ := hA.head
    obtain ⟨A2, harr, hA2⟩ := hA.tail.head
    obtain ⟨ab, cb, hvB, hcb, _⟩ := rowSlice harr.1
    have c1 : wr.cell? ⟨g, 1, none⟩ = some (.slice ab m cb) := by
      rw [hrow.1.cell 1, ← HM.out, ← hvB]; rfl
    cases gk with
    | zero =>
      obtain rfl : i = m := by omega
      have HT := hT
      clear hA hrow harr hin ht hT
      go_wp2
      go_end0
      refine ⟨rfl, ?_⟩
      have := HT.out
      rw [List.take_of_length_le (by rw [HM.out]; exact Nat.le_refl _), List.drop_of_length_le (by rw [HM.out]; exact Nat.le_refl _), List.map_nil, List.append_nil] at this
      exact this
    | succ gk =>
      obtain ⟨wo, rfl⟩ : ∃ wo : World, wo = wr := ⟨_, rfl⟩
      have hil : i < B.length := by rw [HM.out]; omega
      have hlt : (i : Int) < (m : Nat) := by omega
      obtain ⟨gb, cb2, hv2, hOb, k0, k1, k2⟩ := arr_at harr hil
      have hBd : B.drop i = B[i] :: B.drop (i + 1) := List.drop_eq_getElem_cons hil
      have hBt : B.take (i + 1) = B.take i ++ [B[i]] := List.take_succ_eq_append_getElem hil
      have hek : B[i].k ≤ 1000000 := HK.out _ (List.getElem_mem hil)
      obtain ⟨e, he⟩ : ∃ e, B[i] = e := ⟨_, rfl⟩
      rw [he] at k0 k2 hBd hBt hek
      clear he
      rw [hBd, List.map_cons] at hA
      have hA' := hA.perm (perm_mid _ _ _ _ _)
      obtain ⟨F, hF, hFO, hfr⟩ := Al.frame (l := [Part.room 5 e]) hA'
      obtain ⟨X, ⟨vs, hsl⟩, hX⟩ := hF.head
      obtain ⟨ea, en, ec, ek⟩ := e
      dsimp only at k0 k2 hek hsl
      replace k1 : wo.cell? ⟨gb, i * 3 + 1, none⟩ = some (.slice none 0 0) := k1
      have hab : ab = some ⟨gb, 0, none⟩ := by
        rw [hvB] at hv2; cases hv2; rfl
      subst hab
      obtain ⟨hvl, hnc, hcm⟩ := sl_len hsl
      have hen : (en : Int) ≤ 9223372036854775807 := by unfold maxLen at hcm; omega
      have hXs : ∀ k, X k → k < wo.heap.size := fun k hk => (Part.sl 5 ea en ec vs).lt hsl k hk
      have HA := Lib.hid hfr
      have HT := Lib.hid (And.intro ht hin)
      have HBt := Lib.hid hBt
      have HX := Lib.hid hX
      have HXs := Lib.hid hXs
      have Hsl := Lib.hid hsl
      have Hvl := Lib.hid hvl
      have HV := Lib.hid hvB
      clear hA hA' hrow harr hin ht hT hfr hF hFO hX hXs hBd hBt hvB hv2 hA1 hA2 hOb hsl hvl hnc hcm
      go_wp2
      obtain ⟨w1, hw1⟩ : ∃ w1, w1 = wo.alloc (.cells #[.slice ea en ec, .slice none 0 0, .int .i64 (ek : Nat)] 253) := ⟨_, rfl⟩
      have t1 : Touch No wo w1 := by rw [hw1]; exact (Touch.refl No wo).alloc _
      have b0 : w1.cell? ⟨wo.heap.size, 0, none⟩ = some (.slice ea en ec) := by rw [hw1, cell_new]; rfl
      have b2 : w1.cell? ⟨wo.heap.size, 2, none⟩ = some (.int .i64 (ek : Nat)) := by rw [hw1, cell_new]; rfl
      have T1 := Lib.hid t1
      have B0 := Lib.hid b0
      have B2 := Lib.hid b2
      rw [← hw1]
      obtain ⟨hb, Hhb⟩ : ∃ hb, Hid (hb = wo.heap.size) := ⟨_, rfl⟩
      rw [← Hhb.out] at B0 B2 ⊢
      clear hw1 t1 b0 b2 k0 k1 k2 c1
      go_loopg [4] en (fun g' s4 wr => ∃ k : Nat, k + g' = en ∧ s4 = .int .i64 ((k : Nat) : Int) ∧ Hid (∃ us, (Part.sl 5 ea en ec us).P wr X ∧ us.take k = List.replicate k (mkB ek) ∧ Touch X w1 wr))
      case atStart => exact ⟨0, by omega, rfl, ⟨vs, (Part.sl 5 ea en ec vs).stable Hsl.out T1.out (fun _ _ f => f), rfl, Touch.refl _ _⟩⟩
      case round =>
        obtain ⟨k, hk, rfl, hU⟩ := hrel
        obtain ⟨us, hus, htk, htX⟩ := hU.out
        have nh : ¬ X hb := fun h => by have := HXs.out hb h; have := Hhb.out; omega
        have b0 := htX.cell nh B0.out
        have b2 := htX.cell nh B2.out
        cases gk with
        | zero =>
          obtain rfl : k = en := by omega
          have hful : us = List.replicate k (mkB ek) := by rw [← htk, List.take_of_length_le (by rw [hus.1]; exact Nat.le_refl _)]
          have hT3 : TurnsL wo F [Part.full 5 mkB ⟨ea, k, ec, ek⟩] wr := by
            refine ⟨((T1.out.no : Touch F wo w1).then htX (fun k hk h => HX.out k h)), X, ⟨X, fun _ => False, ?_, trivial, fun _ _ f => f, fun _ h => h, fun _ f => f.elim⟩, fun k hk => Or.inl (HX.out k hk)⟩
            show (Part.sl 5 ea k ec (List.replicate k (mkB ek))).P wr X
            rw [← hful]; exact hus
          have hT4 := (TurnsL.comp HT.out.1 HT.out.2 (HA.out wr _ hT3)).perm (perm_mid _ _ _ _ _).symm
          have HN : Hid (TurnsL w O (Part.row g 88 (bookCells n vB vI vN vD) :: Part.arr 253 vB B.length (heNew B) :: ((B.take (i + 1)).map (Part.full 5 mkB) ++ (B.drop (i + 1)).map (Part.room 5))) wr) := by
            show TurnsL _ _ _ _
            rw [HBt.out, List.map_append, List.append_assoc]
            exact hT4
          clear hful hT3 hT4 hus htk htX hU nh
          go_wp2
          go_roundg gk
          case measure => omega
          case rel => exact ⟨i + 1, by omega, by go_num, HN⟩
        | succ g' =>
          have hkn : (k : Int) < (en : Nat) := by omega
          obtain ⟨gg, o, rfl, hXg, hfz, ⟨u, hcu⟩, hset, htset⟩ := sl_set hus (show k < en by omega) (mkB ek)
          have hkl : k < us.length := by rw [hus.1]; omega
          have HN : Hid (∃ us', (Part.sl 5 (some ⟨gg, o, none⟩) en ec us').P ((wr.setCell ⟨gg, o + k, none⟩ (mkB ek)).drew) X ∧ us'.take (k + 1) = List.replicate (k + 1) (mkB ek) ∧ Touch X w1 ((wr.setCell ⟨gg, o + k, none⟩ (mkB ek)).drew)) :=
            ⟨_, (Part.sl 5 (some ⟨gg, o, none⟩) en ec _).stable hset ((Touch.refl No _).drew) (fun _ _ f => f), take_next htk hkl, (htX.trans htset).drew⟩
          clear hus htk htX hset htset hU nh
          go_wp2_with fail
          go_still_tail 7, (by kernel_rfl)
          still_call (show Calls _ _ _ _ (fun e w' => e = .returned (.int .u8 ((ek % 256 : Nat) : Int)) ∧ w' = _) from markByte_any _ ek hek)
          repeat still_step
          refine wpStill_nil ?_
          go_wp2
          go_roundg g'
          case measure => omega
          case rel => exact ⟨k + 1, by omega, by go_num, HN⟩
end Go.Proofs.YtpmkegbgbldpnaaGreatDoor
namespace Go.Proofs.YtpmkegbgbldpnaaGreatDoor
open Go Go.RowKit
namespace Rt

/-! ### four bytes -/
def four (n : Nat) : List Nat := [n % 256, n / 256 % 256, n / 65536 % 256, n / 16777216 % 256]
def unfour (b : List Nat) : Nat := b.getD 0 0 + 256 * b.getD 1 0 + 65536 * b.getD 2 0 + 16777216 * b.getD 3 0
theorem four_length (n : Nat) : (four n).length = 4 := rfl
theorem four_lt (n : Nat) : ∀ x ∈ four n, x < 256 := by
  intro x hx
  simp only [four, List.mem_cons, List.not_mem_nil, or_false] at hx
  omega
theorem unfour_four {n : Nat} (h : n < 4294967296) : unfour (four n) = n := by
  simp [unfour, four]; omega
theorem unfour_lt {b : List Nat} (h : ∀ x ∈ b, x < 256) : unfour b < 4294967296 := by
  have hb : ∀ i, b.getD i 0 < 256 := fun i => by
    rw [List.getD_eq_getElem?_getD]
    cases hq : b[i]? with
    | none => simp
    | some z => exact h z (List.mem_of_getElem? hq)
  have h0 := hb 0
  have h1 := hb 1
  have h2 := hb 2
  have h3 := hb 3
  unfold unfour; omega

/-! ### sums -/
def half1 (r : Nat) : Nat := if r % 2 = 1 then r / 2 ^^^ 3988292384 else r / 2
def halves : Nat → Nat → Nat
  | 0, r => r
  | k + 1, r => halves k (half1 r)
theorem halves_succ : ∀ (k r : Nat), halves (k + 1) r = half1 (halves k r)
  | 0, _ => rfl
  | k + 1, r => by rw [halves, halves_succ k, halves]
def tab (n : Nat) : Nat := halves 8 n
theorem half1_lt {r : Nat} (h : r < 4294967296) : half1 r < 4294967296 := by
  unfold half1
  split
  · exact Nat.xor_lt_two_pow (n := 32) (by omega) (by decide)
  · omega
theorem halves_lt : ∀ (k : Nat) {r : Nat}, r < 4294967296 → halves k r < 4294967296
  | 0, _, h => h
  | k + 1, _, h => halves_lt k (half1_lt h)
theorem tab_lt {n : Nat} (h : n < 256) : tab n < 4294967296 := halves_lt 8 (by omega)
def step (r c : Nat) : Nat := tab (r % 256 ^^^ c) ^^^ r / 256
def neg (r : Nat) : Nat := 4294967295 - r
def run (r : Nat) : List Nat → Nat
  | [] => r
  | c :: b => run (step r c) b
def on (sum : Nat) (b : List Nat) : Nat := neg (run (neg sum) b)
def of (b : List Nat) : Nat := on 0 b
theorem run_append : ∀ (a b : List Nat) (r : Nat), run r (a ++ b) = run (run r a) b
  | [], _, _ => rfl
  | c :: a, b, r => run_append a b (step r c)
theorem idx_lt {r c : Nat} (h : c < 256) : r % 256 ^^^ c < 256 := Nat.xor_lt_two_pow (n := 8) (by omega) h
theorem step_lt {r c : Nat} (hr : r < 4294967296) (hc : c < 256) : step r c < 4294967296 :=
  Nat.xor_lt_two_pow (n := 32) (tab_lt (idx_lt hc)) (by omega)
theorem run_lt : ∀ (b : List Nat) {r : Nat}, r < 4294967296 → (∀ x ∈ b, x < 256) → run r b < 4294967296
  | [], _, h, _ => h
  | c :: b, _, h, hb => run_lt b (step_lt h (hb c (by simp))) (fun x hx => hb x (by simp [hx]))
theorem neg_lt (r : Nat) : neg r < 4294967296 := by unfold neg; omega
theorem on_lt {sum : Nat} {b : List Nat} : on sum b < 4294967296 := neg_lt _
theorem of_lt {b : List Nat} : of b < 4294967296 := neg_lt _

/-- the highest bytes of the table are all unlike -/
def tops : List Nat := (List.range 256).map (fun i => tab i / 16777216)
theorem tops_nodup : tops.Nodup := of_decide_eq_true (by kernel_rfl)
theorem tops_inj {i j : Nat} (hi : i < 256) (hj : j < 256) (h : tab i / 16777216 = tab j / 16777216) : i = j := by
  have li : i < tops.length := by simp [tops]; exact hi
  have lj : j < tops.length := by simp [tops]; exact hj
  refine (List.getElem_inj (h₀ := li) (h₁ := lj) tops_nodup).1 ?_
  simpa [tops] using h
theorem xor_top {a b : Nat} (hb : b < 16777216) : (a ^^^ b) / 16777216 = a / 16777216 := by
  have e : (16777216 : Nat) = 2 ^ 24 := rfl
  rw [e] at hb ⊢
  rw [← Nat.shiftRight_eq_div_pow, ← Nat.shiftRight_eq_div_pow, Nat.shiftRight_xor_distrib, Nat.shiftRight_eq_div_pow b, Nat.div_eq_of_lt hb, Nat.xor_zero]
theorem xor_cancel {a b c : Nat} (h : a ^^^ b = a ^^^ c) : b = c := by
  have := congrArg (fun x => a ^^^ x) h
  simpa [← Nat.xor_assoc] using this
theorem step_idx {r r' c c' : Nat} (hr : r < 4294967296) (hr' : r' < 4294967296) (hc : c < 256) (hc' : c' < 256) (h : step r c = step r' c') : r % 256 ^^^ c = r' % 256 ^^^ c' := by
  refine tops_inj (idx_lt hc) (idx_lt hc') ?_
  have h1 := xor_top (a := tab (r % 256 ^^^ c)) (b := r / 256) (by omega)
  have h2 := xor_top (a := tab (r' % 256 ^^^ c')) (b := r' / 256) (by omega)
  rw [← h1, ← h2]
  exact congrArg (fun x => x / 16777216) h
theorem step_inj {r r' c : Nat} (hr : r < 4294967296) (hr' : r' < 4294967296) (hc : c < 256) (h : step r c = step r' c) : r = r' := by
  have hi := step_idx hr hr' hc hc h
  have h1 : r % 256 = r' % 256 := by
    rw [Nat.xor_comm, Nat.xor_comm (r' % 256)] at hi
    exact xor_cancel hi
  unfold step at h
  rw [hi] at h
  have h2 := xor_cancel h
  omega
theorem run_inj : ∀ (b : List Nat) {r r' : Nat}, r < 4294967296 → r' < 4294967296 → (∀ x ∈ b, x < 256) → run r b = run r' b → r = r'
  | [], _, _, _, _, _, h => h
  | c :: b, _, _, hr, hr', hb, h => by
    have hc := hb c (by simp)
    exact step_inj hr hr' hc (run_inj b (step_lt hr hc) (step_lt hr' hc) (fun x hx => hb x (by simp [hx])) h)
theorem neg_inj {a b : Nat} (ha : a < 4294967296) (hb : b < 4294967296) (h : neg a = neg b) : a = b := by unfold neg at h; omega
theorem on_append (sum : Nat) (a b : List Nat) (_hs : sum < 4294967296) (ha : ∀ x ∈ a, x < 256) : on (on sum a) b = on sum (a ++ b) := by
  have hr := run_lt a (neg_lt sum) ha
  unfold on
  rw [run_append]
  congr 2
  unfold neg at hr ⊢; omega

/-! ### a root's bytes -/
structure Root where
  epoch : Nat
  first : Nat
  bytes : Nat
structure Root.Ok (r : Root) : Prop where
  epoch : r.epoch < 4294967296
  first : r.first < 4294967296
  bytes : r.bytes < 4294967296
def mark : List Nat := [82, 79, 79, 84]
def head (r : Root) : List Nat := mark ++ four r.epoch ++ four r.first ++ four r.bytes
def put (r : Root) : List Nat := head r ++ four (of (head r)) ++ List.replicate 44 0
theorem head_length (r : Root) : (head r).length = 16 := rfl
theorem put_length (r : Root) : (put r).length = 64 := rfl
theorem head_lt (r : Root) : ∀ x ∈ head r, x < 256 := by
  intro x hx
  simp only [head, List.mem_append] at hx
  rcases hx with ((h | h) | h) | h
  · simp only [mark, List.mem_cons, List.not_mem_nil, or_false] at h; omega
  · exact four_lt _ x h
  · exact four_lt _ x h
  · exact four_lt _ x h
theorem put_lt (r : Root) : ∀ x ∈ put r, x < 256 := by
  intro x hx
  simp only [put, List.mem_append] at hx
  rcases hx with (h | h) | h
  · exact head_lt r x h
  · exact four_lt _ x h
  · have := (List.mem_replicate.1 h).2; omega

/-- what Get says of bytes: 0 and the root, or an error: 4 (form), 11 (sum) -/
def nought (b : List Nat) : Bool := b.all (· == 0)
def errOf (b : List Nat) : Nat := if b.length = 64 ∧ b.take 4 = mark ∧ nought (b.drop 20) = true then (if of (b.take 16) = unfour ((b.drop 16).take 4) then 0 else 11) else 4
def rootOf (b : List Nat) : Root := if errOf b = 0 then ⟨unfour ((b.drop 4).take 4), unfour ((b.drop 8).take 4), unfour ((b.drop 12).take 4)⟩ else ⟨0, 0, 0⟩
theorem put_err (r : Root) : errOf (put r) = 0 := by
  have h1 : (put r).take 4 = mark := rfl
  have h2 : nought ((put r).drop 20) = true := rfl
  have h3 : (put r).take 16 = head r := rfl
  have h4 : ((put r).drop 16).take 4 = four (of (head r)) := rfl
  rw [errOf, if_pos ⟨put_length r, h1, h2⟩, h3, h4, unfour_four of_lt, if_pos rfl]
theorem put_root {r : Root} (h : r.Ok) : rootOf (put r) = r := by
  rw [rootOf, if_pos (put_err r)]
  have h1 : ((put r).drop 4).take 4 = four r.epoch := rfl
  have h2 : ((put r).drop 8).take 4 = four r.first := rfl
  have h3 : ((put r).drop 12).take 4 = four r.bytes := rfl
  rw [h1, h2, h3, unfour_four h.epoch, unfour_four h.first, unfour_four h.bytes]

/-! ### one byte turned -/
end Rt
end Go.Proofs.YtpmkegbgbldpnaaGreatDoor
