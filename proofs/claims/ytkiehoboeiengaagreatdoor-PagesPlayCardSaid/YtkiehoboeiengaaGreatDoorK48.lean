/-
  A book that has been told of one more list of bytes that it does not hold yet: the list may still be read.
  Pages on both disks, the program's and the reference's, beside each other: Write, Read.
  A store into what reads as a list. No program in sight.
  Package drydocklaw01 by its own text: TwinBytes, LeftBytes.
  Package drydocklaw01 by its own text: SameBytes.
  Package drydocklaw01 by its own text: SameNumbers of lists that are alike, SameBytes likewise, Beyond of one and of two; bytes as a text.
-/
import Derived.Test.YtkiehoboeiengaaGreatDoorK33
import Derived.Test.YtkiehoboeiengaaGreatDoorK43
import Derived.Test.YtkiehoboeiengaaGreatDoorK45
import Derived.Test.YtkiehoboeiengaaGreatDoorK47
import Derived.Test.YtkiehoboeiengaaGreatDoorK02
import Derived.Test.YtkiehoboeiengaaGreatDoorK21
import Derived.StillTailTactics
import Derived.Test.YtkiehoboeiengaaGreatDoorRows
import Derived.Test.YtkiehoboeiengaaGreatDoorK01
import Derived.Deep.LoopGhost
import Derived.Laws.BytesArg
import Derived.Test.YtkiehoboeiengaaGreatDoorK28
namespace Go.Proofs.YtkiehoboeiengaaGreatDoor
open Go Go.RowKit
set_option linter.unusedVariables false

def toldParts (g n : Nat) (vB vI vN vD : Value) (B : List HE) (e : HE) (I N D : List HE) : List Part :=
  [Part.row g 47 (bookCells n vB vI vN vD), Part.arr 197 vB (B ++ [e]).length (heNew (B ++ [e])), Part.arr 200 vI I.length (heNew I),
    Part.arr 202 vN N.length (heNew N), Part.arr 205 vD D.length (heNew D)] ++
    (B.map (Part.room 5) ++ (I.map (Part.room 3) ++ (N.map (Part.room 21) ++ D.map (Part.room 48))))
def Part.told (g n : Nat) (B : List HE) (e : HE) (I N D : List HE) : Part where
  P w O := (∃ vB vI vN vD, (I = [] → vI = nilSl) ∧ Al w (toldParts g n vB vI vN vD B e I N D) O) ∧ ∀ k, O k → k < w.heap.size
  stable := fun {F w w' O} ⟨⟨vB, vI, vN, vD, h0, h⟩, hl⟩ t hF => ⟨⟨vB, vI, vN, vD, h0, Al.stable t h hF⟩, fun k hk => Nat.lt_of_lt_of_le (hl k hk) t.size⟩
  lt := fun {w O} h => h.2
theorem book_told (w : World) (g n : Nat) (B I N D : List HE) (a : Option Addr) (len cap : Nat) (A : Nat → Prop) (h : Al w [Part.book g n B I N D] A) (hm : B.length ≤ 100000) (hn : n ≤ 1000000) :
    Calls Tryz.prog 15 #[.pointer (some ⟨g, 0, none⟩), .slice a len cap] w fun e w' => e = .returned (.tuple #[]) ∧ TurnsL w A [Part.told g (n + 1) B ⟨a, len, cap, n + 1⟩ I N D] w' := by
  obtain ⟨A1, A2, ⟨⟨vB, vI, vN, vD, h0, hb⟩, hl1⟩, _, hd, h1, h2⟩ := h
  have hall : Al w ([Part.row g 47 (bookCells n vB vI vN vD), Part.arr 197 vB B.length (heNew B)] ++ ([Part.arr 200 vI I.length (heNew I), Part.arr 202 vN N.length (heNew N), Part.arr 205 vD D.length (heNew D)] ++ (B.map (Part.room 5) ++ (I.map (Part.room 3) ++ (N.map (Part.room 21) ++ D.map (Part.room 48)))))) A := Al.mono hb h1
  obtain ⟨F, hF, hFA, hf⟩ := Al.frame (l := [Part.row g 47 (bookCells n vB vI vN vD), Part.arr 197 vB B.length (heNew B)]) (m := _) hall
  obtain ⟨R1, R2, ⟨hrow, hg, _⟩, ⟨R3, _, ⟨harr, hin, _⟩, _, _, hR3, _⟩, hdR, hRF, hRF2⟩ := hF
  refine (bytes_raw w g n vB vI vN vD a len cap B.length (heNew B) hrow harr (fun h => hdR g hg (hR3 g (hin g h))) hm hn).mono ?_
  rintro e w' ⟨he, v', hown, hrow', ht, hin'⟩
  refine ⟨he, ?_⟩
  have hT : TurnsL w F [Part.row g 47 (bookCells (n + 1) v' vI vN vD), Part.arr 197 v' (B ++ [(⟨a, len, cap, n + 1⟩ : HE)]).length (heNew (B ++ [⟨a, len, cap, n + 1⟩]))] w' := by
    refine ⟨ht.mono (fun k _ hk => ?_), fun k => k = g ∨ InBlock v' k, ⟨fun k => k = g, InBlock v', ⟨hrow', rfl, fun k hk => by rw [hk]; exact hrow'.lt⟩, ⟨InBlock v', fun _ => False, ⟨?_, fun _ h => h, fun k hk => (rowBlock hown hk).2⟩, trivial, fun _ _ f => f, fun _ h => h, fun _ f => f.elim⟩, fun k hk hb => ?_, fun k hk => Or.inl hk, fun k hk => Or.inr hk⟩, fun k hk => ?_⟩
    · rcases hk with rfl | hk
      · exact hRF _ hg
      · exact hRF2 k (hR3 k (hin k hk))
    · rw [heNew_snoc, List.length_append]
      exact hown
    · rw [hk] at hb
      rcases hin' g hb with h | h
      · exact hdR g hg (hR3 g (hin g h))
      · have := hrow.lt; omega
    · rcases hk with rfl | hk
      · exact Or.inl (hRF _ hg)
      · exact (hin' k hk).imp (fun h => hRF2 k (hR3 k (hin k h))) id
  have hw : TurnsL w A (toldParts g (n + 1) v' vI vN vD B ⟨a, len, cap, n + 1⟩ I N D) w' := hf w' _ hT
  exact TurnsL.wrap hw (fun O hO hlt => ⟨⟨v', vI, vN, vD, h0, hO⟩, hlt⟩)
/-- the book takes the list -/
theorem told_take {w : World} {g n : Nat} {B I N D : List HE} {a : Option Addr} {len cap k : Nat} {vs : List Value} {A : Nat → Prop} (h : Al w [Part.told g n B ⟨a, len, cap, k⟩ I N D, Part.sl 5 a len cap vs] A) : TurnsL w A [Part.book g n (B ++ [⟨a, len, cap, k⟩]) I N D] w := by
  obtain ⟨A1, A2, ⟨⟨vB, vI, vN, vD, h0, hb⟩, hl1⟩, ⟨A3, _, hs, _, _, h3, _⟩, hd, h1, h2⟩ := h
  have hs' : Al w [Part.room 5 ⟨a, len, cap, k⟩] A2 := ⟨A3, fun _ => False, ⟨vs, hs⟩, trivial, fun _ _ f => f, h3, fun _ f => f.elim⟩
  have hall : Al w (toldParts g n vB vI vN vD B ⟨a, len, cap, k⟩ I N D ++ [Part.room 5 ⟨a, len, cap, k⟩]) A := Al.join hb hs' hd h1 h2
  refine TurnsL.wrap (l := bookParts g n vB vI vN vD (B ++ [⟨a, len, cap, k⟩]) I N D) ((TurnsL.same hall).perm ?_) (fun O hO hlt => ⟨⟨vB, vI, vN, vD, h0, hO⟩, hlt⟩)
  have hp := perm_in [Part.row g 47 (bookCells n vB vI vN vD), Part.arr 197 vB (B ++ [(⟨a, len, cap, k⟩ : HE)]).length (heNew (B ++ [⟨a, len, cap, k⟩])), Part.arr 200 vI I.length (heNew I), Part.arr 202 vN N.length (heNew N), Part.arr 205 vD D.length (heNew D)]
    (B.map (Part.room 5)) (I.map (Part.room 3) ++ (N.map (Part.room 21) ++ D.map (Part.room 48))) (Part.room 5 ⟨a, len, cap, k⟩)
  rw [bookParts, List.map_append]
  exact hp
theorem Sl.told {w0 w : World} {g n : Nat} {B I N D : List HE} {m : List Part} (h : Sl w0 w (Part.book g n B I N D :: m)) (a : Option Addr) (len cap : Nat) (hm : B.length ≤ 100000) (hn : n ≤ 1000000) :
    Calls Tryz.prog 15 #[.pointer (some ⟨g, 0, none⟩), .slice a len cap] w fun e w' => e = .returned (.tuple #[]) ∧ Sl w0 w' (Part.told g (n + 1) B ⟨a, len, cap, n + 1⟩ I N D :: m) :=
  Sl.step (l := [_]) h (fun F hF => book_told w g n B I N D a len cap F hF hm hn)
theorem Sl.takeOne {w0 w : World} {g n k : Nat} {B I N D : List HE} {a : Option Addr} {len cap : Nat} {vs : List Value} {m : List Part} (h : Sl w0 w (Part.told g n B ⟨a, len, cap, k⟩ I N D :: Part.sl 5 a len cap vs :: m)) : Sl w0 w (Part.book g n (B ++ [⟨a, len, cap, k⟩]) I N D :: m) := by
  obtain ⟨A, hA, _, hf⟩ := Sl.frame (l := [_, _]) (m := m) h
  exact hf w [Part.book g n (B ++ [⟨a, len, cap, k⟩]) I N D] (told_take hA)
end Go.Proofs.YtkiehoboeiengaaGreatDoor
namespace Go.Proofs.YtkiehoboeiengaaGreatDoor
open Go Go.RowKit
set_option linter.unusedVariables false

section
variable {w0 w : World} {d g : Nat} {D R : Dk.Disk} {E : List Part}
theorem Two.pgWriteD (h : Two w0 w d g D R E) (num epoch : Nat) (hnum : num < 4294967296) (hep : epoch < 4294967296) (a : Option Addr) (n c : Nat) (q : List Nat) (hq : q.length = n) (hr : Rd w a (nums .u8 q)) (hlt : ∀ x ∈ q, x < 256) (hw : D.waits.length ≤ 100000) :
    Calls Tryz.prog 61 #[dskV (some ⟨d, 0, none⟩), .int .u32 (num : Nat), .int .u32 (epoch : Nat), .slice a n c] w fun e w' => e = .returned (.int .i64 (Pg.wE D num q : Nat)) ∧ Two w0 w' d g (Pg.wD D num epoch q) R E :=
  h.turnD (fun F hF => by
    obtain ⟨O, hO, hA⟩ := al_disk hF
    exact (pgWrite_k w d D 0 O num epoch hnum hep a n c q hq hr hlt (Nat.zero_le _) hO hw).mono fun _ _ ⟨he, t⟩ => ⟨he, disk_turn hA t⟩)
theorem Two.pgWriteR (h : Two w0 w d g D R E) (num epoch : Nat) (hnum : num < 4294967296) (hep : epoch < 4294967296) (a : Option Addr) (n c : Nat) (q : List Nat) (hq : q.length = n) (hr : Rd w a (nums .u8 q)) (hlt : ∀ x ∈ q, x < 256) (hw : R.waits.length ≤ 100000) :
    Calls Tryz.prog 62 #[.pointer (some ⟨g, 0, none⟩), .int .u32 (num : Nat), .int .u32 (epoch : Nat), .slice a n c] w fun e w' => e = .returned (.int .i64 (Pg.wE R num q : Nat)) ∧ Two w0 w' d g D (Pg.wD R num epoch q) E :=
  h.turnR (fun F hF => refPageWrite_any w g R F hF num epoch hnum hep a n c q hq hr hlt hw)
theorem Two.pgReadD (h : Two w0 w d g D R E) (num : Nat) (hnum : num < 4294967296) :
    Calls Tryz.prog 12 #[dskV (some ⟨d, 0, none⟩), .int .u32 (num : Nat)] w fun e w' => ∃ a n, e = .returned (.tuple #[.int .u32 (Pg.rN D num : Nat), .slice a n n, .int .i64 (Pg.rE D num : Nat)]) ∧ (Pg.rB D num).length = n ∧ Two w0 w' d g D R (Part.sl 5 a n n (nums .u8 (Pg.rB D num)) :: E) := by
  obtain ⟨O, hO⟩ := h.disk
  exact (pgRead_any w d D O num hnum hO).mono fun e w' ⟨a, n, he, hn, ⟨c, ho⟩, t⟩ => ⟨a, n, he, hn, h.push (born_sl t (Nat.le_refl _) ho (Nat.le_refl _) (by
    have := ho.room
    omega))⟩
theorem Two.pgReadR (h : Two w0 w d g D R E) (num : Nat) (hnum : num < 4294967296) :
    Calls Tryz.prog 13 #[.pointer (some ⟨g, 0, none⟩), .int .u32 (num : Nat)] w (RefPgRead w R num) := by
  obtain ⟨vs, vn, vw, hR⟩ := h.rdisk
  exact refPageRead_any hR num hnum
theorem Two.told {gk n : Nat} {B : List HE} (h : Two w0 w d g D R (Part.book gk n B [] [] [] :: E)) (a : Option Addr) (m c : Nat) (hm : B.length ≤ 100000) (hn : n ≤ 1000000) :
    Calls Tryz.prog 15 #[.pointer (some ⟨gk, 0, none⟩), .slice a m c] w fun e w' => e = .returned (.tuple #[]) ∧ Two w0 w' d g D R (Part.told gk (n + 1) B ⟨a, m, c, n + 1⟩ [] [] [] :: E) := by
  have h1 : Sl w0 w (Part.book gk n B [] [] [] :: ([Part.disk d D, Part.rdisk g R] ++ E)) := Sl.perm h (List.perm_middle (l₁ := [_, _]))
  exact (h1.told a m c hm hn).mono fun e w' ⟨he, hs⟩ => ⟨he, Sl.perm hs (List.perm_middle (l₁ := [_, _])).symm⟩
theorem Two.takeOne {gk n k : Nat} {B : List HE} {a : Option Addr} {m c : Nat} {vs : List Value} (h : Two w0 w d g D R (Part.told gk n B ⟨a, m, c, k⟩ [] [] [] :: Part.sl 5 a m c vs :: E)) : Two w0 w d g D R (Part.book gk n (B ++ [⟨a, m, c, k⟩]) [] [] [] :: E) := by
  have h1 : Sl w0 w (Part.told gk n B ⟨a, m, c, k⟩ [] [] [] :: Part.sl 5 a m c vs :: ([Part.disk d D, Part.rdisk g R] ++ E)) := Sl.perm h (List.perm_append_comm_assoc [_, _] [_, _] E)
  exact Sl.perm h1.takeOne (List.perm_middle (l₁ := [_, _])).symm
end
end Go.Proofs.YtkiehoboeiengaaGreatDoor
namespace Go.Proofs.YtkiehoboeiengaaGreatDoor
open Go Go.RowKit

theorem Rd.set {w : World} {g o : Nat} {vs : List Value} (h : Rd w (some ⟨g, o, none⟩) vs) {p : Nat} (hp : p < vs.length) (v : Value) : Rd (w.setCell ⟨g, o + p, none⟩ v) (some ⟨g, o, none⟩) (vs.set p v) := by
  intro i u hi
  refine ⟨g, o, rfl, ?_⟩
  rw [List.getElem?_set] at hi
  by_cases e : p = i
  · subst e
    rw [if_pos rfl, if_pos hp] at hi
    obtain ⟨g', o', e', hc⟩ := h p vs[p] (List.getElem?_eq_getElem hp)
    cases e'
    rw [cell_set hc]; exact hi
  · rw [if_neg e] at hi
    obtain ⟨g', o', e', hc⟩ := h i u hi
    cases e'
    rw [cell_set_ne (Or.inr (by omega))]; exact hc
theorem Own.soft {w : World} {base : Nat} {T : TypeId} {g o n c : Nat} {vs : List Value} (h : Own w base T (.slice (some ⟨g, o, none⟩) n c) vs) (k : Nat) : w.frozen? ⟨g, k, none⟩ = false := by
  obtain ⟨_, h⟩ := h
  rcases h with ⟨h, _⟩ | ⟨g', cap, cur, hv, _, hh, _⟩
  · cases h
  · cases hv
    have hR : Row w g T cur.toList := by rw [Row, Array.toArray_toList]; exact hh
    exact hR.soft k

end Go.Proofs.YtkiehoboeiengaaGreatDoor
namespace Go.Proofs.YtkiehoboeiengaaGreatDoor
open Go Go.RowKit
set_option linter.unusedSimpArgs false

theorem ints_snocB (zs : List Int) (k : Nat) (h : k < zs.length) : ints .u8 (zs.take (k + 1)) = ints .u8 (zs.take k) ++ [.int .u8 (zs.getD k 0)] := by
  rw [List.take_succ_eq_append_getElem h, ints, List.map_append, List.getD_eq_getElem?_getD, List.getElem?_eq_getElem h]; rfl
set_option maxRecDepth 100000 in
set_option maxHeartbeats 2000000 in
theorem twinBytes_any (w : World) (a : Option Addr) (n c : Nat) (zs : List Int) (hz : zs.length = n) (hm : (n : Int) ≤ 140737488351232) (hr : Rd w a (ints .u8 zs)) :
    Calls Tryz.prog 26 #[.slice a n c] w fun e w' => ∃ a' c', e = .returned (.slice a' n c') ∧ n < c' ∧ Own w' w.heap.size 5 (.slice a' (n + 1) c') (ints .u8 zs ++ [.int .u8 77]) ∧ Touch No w w' := by
  have Hz := Lib.hid hz
  have Hr := Lib.hid hr
  obtain ⟨I, hi0, hi1, hi2, hi3⟩ := u8_info
  have HI := Lib.hid (And.intro hi0 (And.intro hi1 (And.intro hi2 hi3)))
  clear hz hr hi0 hi1 hi2 hi3
  go_enter Tryz.func26, Tryz.ntmps26
  go_wp2_with (at_make; refine wpList_make_own _ rfl _ _ _ rfl w.heap.size _ I _ 1 Tryz.underlying49 HI.out.1 HI.out.2.1 HI.out.2.2.1 .i64 .i64 _ (n + 1) rfl rfl (by omega) (by rw [HI.out.2.2.2]; omega) (by unfold maxLen; omega) (Nat.le_refl _) ?_; intro w1 hown hgrow)
  have T1 : Hid (Touch No w w1) := (Touch.refl No w).grown hgrow (fun k hk _ => by cases hk)
  have O1 : Hid (Own w1 w.heap.size 5 (.slice (some ⟨w.heap.size, 0, none⟩) 0 (n + 1)) (ints .u8 (zs.take 0))) := hown
  clear hown hgrow
  go_loopg [3, 4] n (fun g s3 s4 wr => ∃ (k : Nat) (v : Value), k + g = n ∧ s4 = .int .i64 ((k : Nat) : Int) ∧ s3 = v ∧ Hid (Own wr w.heap.size 5 v (ints .u8 (zs.take k))) ∧ Hid (Touch No w wr))
  case atStart => exact ⟨0, _, by omega, rfl, rfl, O1, T1⟩
  case round =>
    obtain ⟨k, v, hkg, rfl, rfl, O, T⟩ := hrel
    cases gk with
    | zero =>
      obtain rfl : k = n := by omega
      have hO := O.out
      rw [List.take_of_length_le (by rw [Hz.out]; exact Nat.le_refl _)] at hO
      have hlk : (ints .u8 zs).length = k := by rw [ints_length, Hz.out]
      obtain ⟨al, cl, rfl, _⟩ := hO.form' hlk
      have HO := Lib.hid hO
      have Hlk := Lib.hid hlk
      clear hO hlk O
      go_wp2_with (at_builtin; refine wpList_append1 rfl _ _ _ rfl w.heap.size _ I _ 1 Tryz.underlying49 HI.out.1 HI.out.2.1 HI.out.2.2.1 HI.out.2.2.2 rfl _ (ints .u8 zs) _ HO.out rfl rfl rfl (by rw [Hlk.out]; unfold maxLen; omega) (by rw [Hlk.out]; omega) T.out.size ?_; intro v' w3 hown3 ht3; obtain ⟨a3, c3, rfl, hc3, _⟩ := hown3.form' (n := k + 1) (by rw [List.length_append, Hlk.out]; rfl); have hhead := fun wx : World => run_head (P := Tryz.prog) Tryz.underlying49 HI.out.1 HI.out.2.2.1 a3 (k + 1) c3 k .i64 (show k ≤ c3 by omega) wx)
      have HF : Hid (Own w3 w.heap.size 5 (.slice a3 (k + 1) c3) (ints .u8 zs ++ [.int .u8 77]) ∧ Touch No w w3 ∧ k < c3) := ⟨hown3, T.out.then ht3 (fun i hi e => absurd ((HO.out.block e).1) (by omega)), by omega⟩
      clear hown3 ht3 hc3
      go_wp2
      go_ret
      exact ⟨a3, c3, rfl, HF.out.2.2, HF.out.1, HF.out.2.1⟩
    | succ g =>
      have hlt : (k : Int) < (n : Nat) := by omega
      have hkl : k < zs.length := by rw [Hz.out]; omega
      have hlk : (ints .u8 (zs.take k)).length = k := by rw [ints_length, List.length_take]; omega
      obtain ⟨al, cl, rfl, _⟩ := O.out.form' hlk
      obtain ⟨ga, oa, rfl, hca⟩ := (Hr.out.no T.out).int hkl
      have HN := Lib.hid (ints_snocB zs k hkl)
      obtain ⟨z, hzz⟩ : ∃ z, zs.getD k 0 = z := ⟨_, rfl⟩
      rw [hzz] at hca HN
      have Hlk := Lib.hid hlk
      clear hlk hzz hkl
      go_wp2_with (at_builtin; refine wpList_append1 rfl _ _ _ rfl w.heap.size _ I _ 1 Tryz.underlying49 HI.out.1 HI.out.2.1 HI.out.2.2.1 HI.out.2.2.2 rfl _ _ _ O.out rfl rfl rfl (by rw [Hlk.out]; unfold maxLen; omega) (by rw [Hlk.out]; omega) T.out.size ?_; intro v' w3 hown3 ht3)
      go_roundg g
      case measure => omega
      case rel => exact ⟨k + 1, v', by omega, by go_num, rfl, by rw [HN.out]; exact hown3, T.out.then ht3 (fun i hi e => absurd ((O.out.block e).1) (by omega))⟩
set_option maxRecDepth 100000 in
set_option maxHeartbeats 2000000 in
theorem leftBytes_any (w : World) (a' : Option Addr) (n c' : Nat) (a : Option Addr) (c : Nat) (zs : List Int) (hz : zs.length = n) (hm : (n : Int) ≤ 140737488351232) (hc : n < c') (hr' : Rd w a' (ints .u8 zs ++ [.int .u8 77])) (hr : Rd w a (ints .u8 zs)) :
    Calls Tryz.prog 29 #[.slice a' n c', .slice a n c] w fun e w' => e = .returned (.bool true) ∧ Touch No w w' := by
  obtain ⟨I, hi0, hi1, hi2, hi3⟩ := u8_info
  have hhead := fun wx : World => run_head (P := Tryz.prog) Tryz.underlying49 hi0 hi2 a' n c' (n + 1) .i64 hc wx
  have Hhead := Lib.hid hhead
  have Hz := Lib.hid hz
  have Hr := Lib.hid hr
  have Hr' := Lib.hid hr'
  have hcd : decide (c' ≤ n) = false := decide_eq_false (by omega)
  clear hz hr hr' hi0 hi1 hi2 hi3 hhead hc
  go_enter Tryz.func29, Tryz.ntmps29
  go_wp2
  clear hcd
  go_loopg [4, 5] n (fun g s4 s5 wr => ∃ k : Nat, k + g = n ∧ s4 = .bool false ∧ s5 = .int .i64 ((k : Nat) : Int) ∧ Hid (Touch No w wr))
  case atStart => exact ⟨0, by omega, rfl, rfl, Touch.refl _ _⟩
  case round =>
    obtain ⟨k, hkg, rfl, rfl, T⟩ := hrel
    cases gk with
    | zero =>
      obtain rfl : k = n := by omega
      obtain ⟨ga, oa, rfl, hca⟩ := (Hr'.out.no T.out) k (.int .u8 77) (by rw [List.getElem?_append_right (by rw [ints_length, Hz.out]; exact Nat.le_refl _), ints_length, Hz.out, Nat.sub_self]; rfl)
      have hhead : ∀ wx : World, (Instr.slice 49 (.slice (some ⟨ga, oa, none⟩) k c') none (some (.int .i64 ((k : Int) + 1))) none).run Tryz.prog wx = .ok (.slice (some ⟨ga, oa, none⟩) (k + 1) c') wx := fun wx => Hhead.out wx
      clear Hhead Hr'
      go_wp2
      go_ret
      exact ⟨rfl, T.out⟩
    | succ g =>
      have hlt : (k : Int) < (n : Nat) := by omega
      have hkl : k < zs.length := by rw [Hz.out]; omega
      obtain ⟨ga, oa, rfl, hca⟩ := (Hr.out.no T.out).int hkl
      obtain ⟨gb, ob, rfl, hcb⟩ := (Hr'.out.no T.out) k (.int .u8 (zs.getD k 0)) (by rw [List.getElem?_append_left (by rw [ints_length]; exact hkl), ints_get hkl])
      obtain ⟨z, hzz⟩ : ∃ z, zs.getD k 0 = z := ⟨_, rfl⟩
      rw [hzz] at hca hcb
      have hzz2 : (z != z) = false := by simp
      have HT := T
      clear hzz hkl T
      go_wp2
      refine wp_region_still_lit (by kernel_rfl) (by kernel_rfl) ?_
      repeat still_step
      refine wpStill_nil ?_
      have HN : Hid (Touch No w wr.drew) := HT.out.drew
      go_wp2
      go_roundg g
      case measure => omega
      case rel => exact ⟨k + 1, by omega, rfl, by go_num, HN⟩
end Go.Proofs.YtkiehoboeiengaaGreatDoor
namespace Go.Proofs.YtkiehoboeiengaaGreatDoor
open Go Go.RowKit

theorem take_getD {xs : List Nat} {k : Nat} (h : k < xs.length) : xs.take (k + 1) = xs.take k ++ [xs.getD k 0] := by
  rw [List.take_succ_eq_append_getElem h, List.getD_eq_getElem?_getD, List.getElem?_eq_getElem h]; rfl

/-- two slices of numbers: alike? -/
def sameBytes (xs ys : List Nat) : Bool := decide (xs = ys)

set_option maxHeartbeats 400000 in
theorem sameBytes_len (w : World) (a b : Option Addr) (n m c d : Nat) (h : n ≠ m) :
    Calls Tryz.prog 14 #[.slice a n c, .slice b m d] w fun e w' => e = .returned (.bool false) ∧ w = w' := by
  go_enter Tryz.func14, Tryz.ntmps14
  go_wp2
  go_ret
  exact ⟨rfl, rfl⟩

theorem same_next {xs ys : List Nat} {k : Nat} (hx : k < xs.length) (hy : k < ys.length) (h : xs.take k = ys.take k) (he : xs.getD k 0 = ys.getD k 0) : xs.take (k + 1) = ys.take (k + 1) := by
  rw [take_getD hx, take_getD hy, h, he]
theorem same_not {xs ys : List Nat} {k : Nat} (he : xs.getD k 0 ≠ ys.getD k 0) : sameBytes xs ys = false := by
  simp only [sameBytes, decide_eq_false_iff_not]
  rintro rfl; exact he rfl

def SamePost (w : World) (xs ys : List Nat) (e : Ending) (w' : World) : Prop := e = .returned (.bool (sameBytes xs ys)) ∧ Touch No w w'

set_option maxHeartbeats 1000000 in
theorem sameBytes_eq (w : World) (a b : Option Addr) (n c d : Nat) (xs ys : List Nat) (hx : xs.length = n) (hy : ys.length = n) (hn : (n : Int) ≤ 9223372036854775807)
    (ha : Rd w a (nums .u8 xs)) (hb : Rd w b (nums .u8 ys)) :
    Calls Tryz.prog 14 #[.slice a n c, .slice b n d] w (SamePost w xs ys) := by
  have Hx := Lib.hid hx; clear hx
  have Hy := Lib.hid hy; clear hy
  have Ha := Lib.hid ha; clear ha
  have Hb := Lib.hid hb; clear hb
  go_enter Tryz.func14, Tryz.ntmps14
  go_wp2
  go_loopg [5] n (fun g s5 wr => ∃ k : Nat, k + g = n ∧ s5 = .int .i64 ((k : Nat) : Int) ∧ Hid (xs.take k = ys.take k) ∧ Hid (Touch No w wr))
  case atStart => exact ⟨0, by omega, rfl, rfl, Touch.refl _ _⟩
  case round =>
    obtain ⟨k, hkg, rfl, E, T⟩ := hrel
    cases gk with
    | zero =>
      obtain rfl : k = n := by omega
      have Fin : Hid (sameBytes xs ys = true) := by
        have := E.out
        rw [List.take_of_length_le (by have := Hx.out; omega), List.take_of_length_le (by have := Hy.out; omega)] at this
        show _ = _
        simp [sameBytes, this]
      go_wp2
      go_ret
      exact ⟨ret_bool Fin.out.symm, T.out⟩
    | succ g =>
      have hlt : k < n := by omega
      have hxl : k < xs.length := by have := Hx.out; omega
      have hyl : k < ys.length := by have := Hy.out; omega
      obtain ⟨b1, o1, rfl, h1⟩ := (Ha.out.no T.out).num hxl
      obtain ⟨b2, o2, rfl, h2⟩ := (Hb.out.no T.out).num hyl
      have Next := Lib.hid (same_next hxl hyl E.out)
      have Not := Lib.hid (same_not (xs := xs) (ys := ys) (k := k))
      clear hxl hyl
      generalize xs.getD k 0 = x at *
      generalize ys.getD k 0 = y at *
      by_cases hxy : x = y
      · subst hxy
        go_wp2_with fail
        go_quiet (fail)
        go_wp2
        go_roundg g
        case measure => omega
        case rel => exact ⟨k + 1, by omega, by go_num, Next.out (by first | rfl | trivial), T.out.drewN _⟩
      · have hne : ((x : Int) != (y : Int)) = true := by simp; omega
        have Hxy := Lib.hid hxy; clear hxy
        go_wp2_with fail
        go_quiet (fail)
        go_wp2
        go_ret
        exact ⟨ret_bool (Not.out Hxy.out).symm, T.out.drewN _⟩
end Go.Proofs.YtkiehoboeiengaaGreatDoor
namespace Go.Proofs.YtkiehoboeiengaaGreatDoor
open Go Go.RowKit
set_option linter.unusedSimpArgs false

def TruePost (w : World) (e : Ending) (w' : World) : Prop := e = .returned (.bool true) ∧ Touch No w w'
theorem sameB_any (w : World) (a b : Option Addr) (n c d : Nat) (xs : List Nat) (hx : xs.length = n) (hn : (n : Int) ≤ 9223372036854775807) (ha : Rd w a (nums .u8 xs)) (hb : Rd w b (nums .u8 xs)) :
    Calls Tryz.prog 14 #[.slice a n c, .slice b n d] w (TruePost w) :=
  (sameBytes_eq w a b n c d xs xs hx hx hn ha hb).mono fun _ _ ⟨he, ht⟩ => ⟨by rw [he, sameBytes, decide_eq_true rfl], ht⟩

set_option maxHeartbeats 1000000 in
theorem sameN_any (w : World) (a b : Option Addr) (n c d : Nat) (xs : List Int) (hx : xs.length = n) (hn : (n : Int) ≤ 9223372036854775807) (ha : Rd w a (ints .i32 xs)) (hb : Rd w b (ints .i32 xs)) :
    Calls Tryz.prog 138 #[.slice a n c, .slice b n d] w (TruePost w) := by
  have Hx := Lib.hid hx; clear hx
  have Ha := Lib.hid ha; clear ha
  have Hb := Lib.hid hb; clear hb
  go_enter Tryz.func138, Tryz.ntmps138
  go_wp2
  go_loopg [5] n (fun g s5 wr => ∃ k : Nat, k + g = n ∧ s5 = .int .i64 ((k : Nat) : Int) ∧ Hid (Touch No w wr))
  case atStart => exact ⟨0, by omega, rfl, Touch.refl _ _⟩
  case round =>
    obtain ⟨k, hkg, rfl, T⟩ := hrel
    cases gk with
    | zero =>
      obtain rfl : k = n := by omega
      go_wp2
      go_ret
      exact ⟨rfl, T.out⟩
    | succ g =>
      have hlt : k < n := by omega
      have hxl : k < xs.length := by have := Hx.out; omega
      obtain ⟨b1, o1, rfl, h1⟩ := (Ha.out.no T.out).int hxl
      obtain ⟨b2, o2, rfl, h2⟩ := (Hb.out.no T.out).int hxl
      clear hxl
      generalize xs.getD k 0 = x at *
      go_wp2_with fail
      go_quiet (fail)
      go_wp2
      go_roundg g
      case measure => omega
      case rel => exact ⟨k + 1, by omega, by go_num, T.out.drewN _⟩

end Go.Proofs.YtkiehoboeiengaaGreatDoor
