/-
  Package drydocklaw01 by its own text: SameBytes.
  Package drydocklaw01 by its own text: SameNumbers of lists that are alike, SameBytes likewise, Beyond of one and of two; bytes as a text.
  Layer 18's law: what a store has.
  Rows of structs (so many cells an element) that a call makes by append: as parts; append of a row that reads so. No program in sight.
  Layer 18's law: things but those of one id, plain; lists of things that the law makes.
  Package drydocklaw18 by its own text: the walk of ShadowsUndo.
  Layer 18's laws: a store that was committed, opened again behind a failure.
  Layer 18's law: what has no room, plain.
-/
import Derived.Test.YtpmkegbgbldpnaaGreatDoorRows
import Derived.Test.YtpmkegbgbldpnaaGreatDoorK01
import Derived.Deep.LoopGhost
import Derived.Test.YtpmkegbgbldpnaaGreatDoorK08
import Derived.Laws.BytesArg
import Derived.Test.YtpmkegbgbldpnaaGreatDoorK16
import Derived.Test.YtpmkegbgbldpnaaGreatDoorK46
import Derived.Test.YtpmkegbgbldpnaaGreatDoorK06
import Derived.Test.YtpmkegbgbldpnaaGreatDoorK07
import Derived.Maps.AppendAt
import Derived.Deep.DeepCutAuto
import Derived.Deep.CutBlock
import Derived.Lib.SmallJoins
import Derived.Test.YtpmkegbgbldpnaaGreatDoorK47
import Derived.Test.YtpmkegbgbldpnaaGreatDoorK48
namespace Go.Proofs.YtpmkegbgbldpnaaGreatDoor
open Go Go.RowKit

theorem take_getD_sb {xs : List Nat} {k : Nat} (h : k < xs.length) : xs.take (k + 1) = xs.take k ++ [xs.getD k 0] := by
  rw [List.take_succ_eq_append_getElem h, List.getD_eq_getElem?_getD, List.getElem?_eq_getElem h]; rfl

/-- two slices of numbers: alike? -/
def sameBytes (xs ys : List Nat) : Bool := decide (xs = ys)

theorem same_next {xs ys : List Nat} {k : Nat} (hx : k < xs.length) (hy : k < ys.length) (h : xs.take k = ys.take k) (he : xs.getD k 0 = ys.getD k 0) : xs.take (k + 1) = ys.take (k + 1) := by
  rw [take_getD_sb hx, take_getD_sb hy, h, he]
theorem same_not {xs ys : List Nat} {k : Nat} (he : xs.getD k 0 ≠ ys.getD k 0) : sameBytes xs ys = false := by
  simp only [sameBytes, decide_eq_false_iff_not]
  rintro rfl; exact he rfl

def SamePost (w : World) (xs ys : List Nat) (e : Ending) (w' : World) : Prop := e = .returned (.bool (sameBytes xs ys)) ∧ Touch No w w'

set_option maxHeartbeats 1000000 in
theorem sameBytes_eq (w : World) (a b : Option Addr) (n c d : Nat) (xs ys : List Nat) (hx : xs.length = n) (hy : ys.length = n) (hn : (n : Int) ≤ 9223372036854775807)
    (ha : Rd w a (nums .u8 xs)) (hb : Rd w b (nums .u8 ys)) :
    Calls Tryz.prog 27 #[.slice a n c, .slice b n d] w (SamePost w xs ys) := by
  have Hx := Lib.hid hx; clear hx
  have Hy := Lib.hid hy; clear hy
  have Ha := Lib.hid ha; clear ha
  have Hb := Lib.hid hb; clear hb
  go_enter Tryz.func27, Tryz.ntmps27
  go_wp2
  go_loopg [5] n (fun g s5 wr => ∃ k : Nat, k + g = n ∧ s5 = .int .i64 ((k : Nat) : Int) ∧ Hid (xs.take k = ys.take k) ∧ Hid (Touch No w wr))
  case atStart => exact ⟨0, by omega, rfl, rfl, Touch.refl _ _⟩
  case round =>
    obtain ⟨k, hkg, rfl, E, T⟩ := hrel
    cases gk with
    | zero =>
      obtain rfl : k = n := by omega
      have Fin : Hid (sameBytes xs ys = true) := by
        have := E.out
        rw [List.take_of_length_le (by have := Hx.out; omega), List.take_of_length_le (by have := Hy.out; omega)] at this
        show _ = _
        simp [sameBytes, this]
      go_wp2
      go_ret
      exact ⟨ret_bool Fin.out.symm, T.out⟩
    | succ g =>
      have hlt : k < n := by omega
      have hxl : k < xs.length := by have := Hx.out; omega
      have hyl : k < ys.length := by have := Hy.out; omega
      obtain ⟨b1, o1, rfl, h1⟩ := (Ha.out.no T.out).num hxl
      obtain ⟨b2, o2, rfl, h2⟩ := (Hb.out.no T.out).num hyl
      have Next := Lib.hid (same_next hxl hyl E.out)
      have Not := Lib.hid (same_not (xs := xs) (ys := ys) (k := k))
      clear hxl hyl
      generalize xs.getD k 0 = x at *
      generalize ys.getD k 0 = y at *
      by_cases hxy : x = y
      · subst hxy
        go_wp2_with fail
        go_quiet (fail)
        go_wp2
        go_roundg g
        case measure => omega
        case rel => exact ⟨k + 1, by omega, by go_num, Next.out (by first | rfl | trivial), T.out.drewN _⟩
      · have hne : ((x : Int) != (y : Int)) = true := by simp; omega
        have Hxy := Lib.hid hxy; clear hxy
        go_wp2_with fail
        go_quiet (fail)
        go_wp2
        go_ret
        exact ⟨ret_bool (Not.out Hxy.out).symm, T.out.drewN _⟩
end Go.Proofs.YtpmkegbgbldpnaaGreatDoor
namespace Go.Proofs.YtpmkegbgbldpnaaGreatDoor
open Go Go.RowKit
set_option linter.unusedSimpArgs false

def TruePost (w : World) (e : Ending) (w' : World) : Prop := e = .returned (.bool true) ∧ Touch No w w'
theorem sameB_any (w : World) (a b : Option Addr) (n c d : Nat) (xs : List Nat) (hx : xs.length = n) (hn : (n : Int) ≤ 9223372036854775807) (ha : Rd w a (nums .u8 xs)) (hb : Rd w b (nums .u8 xs)) :
    Calls Tryz.prog 27 #[.slice a n c, .slice b n d] w (TruePost w) :=
  (sameBytes_eq w a b n c d xs xs hx hx hn ha hb).mono fun _ _ ⟨he, ht⟩ => ⟨by rw [he, sameBytes, decide_eq_true rfl], ht⟩

end Go.Proofs.YtpmkegbgbldpnaaGreatDoor
namespace Go.Proofs.YtpmkegbgbldpnaaGreatDoor
open Go Go.RowKit
set_option linter.unusedSimpArgs false
set_option linter.unusedVariables false
section
variable {w0 w w' : World} {s d f : Nat} {T : Sh.Sto} {E : List Part}
set_option maxRecDepth 100000 in
set_option maxHeartbeats 8000000 in
theorem shHas {kc : List (Nat × List Nat)} (h : Sg true w0 w s d f T E) (a : Option Addr) (n c : Nat) (l : List TgDeed) (hT : Sh.Has T (Sh.putC [] l) kc) (hl : TgAny w0 s d E a l) (hg : TgGood w0 l) (hn : l.length = n) (hnm : (n : Int) ≤ 1000000000000) (hb : ∀ x ∈ l, x.b.length ≤ 65536) :
    Calls Tryz.prog 23 #[.pointer (some ⟨s, 0, none⟩), .slice a n c] w fun e w' => e = .returned (.bool true) ∧ Sg true w0 w' s d f T E := by
  have H := Lib.hid h
  have HL := Lib.hid hl
  have HG := Lib.hid hg
  have HN := Lib.hid hn
  have HT := Lib.hid hT
  have HB := Lib.hid hb
  have HC : Hid (T.now.length = Sh.cnt l) := by show _ = _; rw [hT.len, Sh.putC_len]
  have HCl : Hid (Sh.cnt l ≤ n) := by show _ ≤ _; rw [← hn]; exact Sh.cnt_le l
  clear h hl hg hn hT hb
  go_enter Tryz.func23, Tryz.ntmps23
  go_wp2
  go_loopg [5, 6] n (fun g s5 s6 wr => ∃ k m : Nat, k + g = n ∧ s6 = .int .i64 ((k : Nat) : Int) ∧ s5 = .int .i64 ((m : Nat) : Int) ∧ Hid (m + Sh.cnt (l.drop k) = Sh.cnt l) ∧ Hid (Sg true w0 wr s d f T E))
  case atStart => exact ⟨0, 0, by omega, rfl, rfl, by show _ = _; rw [List.drop_zero, Nat.zero_add], H.out⟩
  case round =>
    clear H
    obtain ⟨k, m, hkn, rfl, rfl, HM, HS⟩ := hrel
    cases gk with
    | zero =>
      obtain rfl : k = n := by omega
      have e : T.now.length = m := by
        have h1 := HM.out
        rw [List.drop_of_length_le (by rw [HN.out]; exact Nat.le_refl _)] at h1
        rw [HC.out, ← h1]; rfl
      have C := Ss.idsC HS.out HT.out.ok
      rw [e] at C
      have CC := Lib.hid C
      clear e C HM
      go_wp2_with fail
      refine CC.out.mono ?_
      rintro e w1 ⟨⟨b1, rfl⟩, s1⟩
      have S1 := Lib.hid s1
      clear s1 CC HS
      go_wp2
      go_ret
      exact ⟨rfl, S1.out⟩
    | succ g =>
      have hki : (k : Int) < (n : Nat) := by omega
      have hkl : k < l.length := by rw [HN.out]; omega
      obtain ⟨x, hx⟩ : ∃ x, l[k] = x := ⟨_, rfl⟩
      have hcd := Sh.cnt_drop hkl
      have hlk := Sh.look_last hkl
      rw [hx] at hcd hlk
      obtain ⟨g0, o0, ha, hA⟩ := HL.out _ _ _ HS.out k x (by rw [List.getElem?_eq_getElem hkl, hx])
      subst ha
      have hmem : x ∈ l := by rw [← hx]; exact List.getElem_mem hkl
      have hGx := HG.out x hmem
      have HBx : Hid (x.b.length ≤ 65536) := HB.out x hmem
      have HAn : Hid (∀ w' f' T', Sg true w0 w' s d f' T' E → ∀ i, i < n → ∃ y : Nat, (∀ hi : i < l.length, l[i].id = y) ∧ w'.cell? ⟨g0, o0 + i * 2, none⟩ = some (.int .u32 (y : Nat))) := fun w' f' T' h i hi => by
        have hil : i < l.length := by rw [HN.out]; exact hi
        obtain ⟨c, o, e, hc⟩ := HL.out _ _ _ h i l[i] (by rw [List.getElem?_eq_getElem hil])
        simp only [Option.some.injEq, Addr.mk.injEq, and_true] at e
        obtain ⟨rfl, rfl⟩ := e
        exact ⟨l[i].id, fun _ => rfl, hc 0 (by decide)⟩
      have HX : Hid (∀ w' f' T', Sg true w0 w' s d f' T' E → w'.cell? ⟨g0, o0 + k * 2, none⟩ = some (.int .u32 (x.id : Nat)) ∧ w'.cell? ⟨g0, o0 + k * 2 + 1, none⟩ = some (.slice x.b_a x.b.length x.b_cap)) := fun w' f' T' h => by
        obtain ⟨c, o, e, hc⟩ := HL.out _ _ _ h k x (by rw [List.getElem?_eq_getElem hkl, hx])
        simp only [Option.some.injEq, Addr.mk.injEq, and_true] at e
        obtain ⟨rfl, rfl⟩ := e
        exact ⟨hc 0 (by decide), hc 1 (by decide)⟩
      have HCD := Lib.hid hcd
      have HLK := Lib.hid hlk
      have HGx := Lib.hid hGx
      have HKL := Lib.hid hkl
      clear hA hcd hlk hGx hmem hx hkl
      go_wp2
      obtain ⟨wo, rfl⟩ : ∃ wo : World, wo = wr := ⟨_, rfl⟩
      go_loopg [7, 8] (n - (k + 1)) (fun g2 s7 s8 wy => ∃ (j : Nat) (b : Bool), j + g2 = n ∧ k < j ∧ s7 = .bool b ∧ s8 = .int .i64 ((j : Nat) : Int) ∧ Hid ((b || (l.drop j).any (fun y => y.id == x.id)) = (l.drop (k + 1)).any (fun y => y.id == x.id)) ∧ Hid (Sg true w0 wy s d f T E))
      case atStart => exact ⟨k + 1, false, by omega, by omega, rfl, by go_num, by show _ = _; rw [Bool.false_or], HS.out⟩
      case round =>
        clear HS
        obtain ⟨j, b, hjn, hkj, rfl, rfl, HJ, HS⟩ := hrel
        cases gk with
        | zero =>
          obtain rfl : j = n := by omega
          have hlast : (l.drop (k + 1)).any (fun y => y.id == x.id) = b := by
            have := HJ.out
            rw [List.drop_of_length_le (by rw [HN.out]; exact Nat.le_refl _)] at this
            simpa using this.symm
          have hM := HCD.out
          have hK := HLK.out
          rw [hlast] at hM hK
          clear HJ hlast HCD HLK
          cases b with
          | true =>
            have HM2 : Hid (m + Sh.cnt (l.drop (k + 1)) = Sh.cnt l) := by show _ = _; have h1 := HM.out; have h2 : Sh.cnt (l.drop k) = 0 + Sh.cnt (l.drop (k + 1)) := hM; omega
            clear hM hK HM
            go_wp2
            go_roundg g
            case measure => omega
            case rel => exact ⟨k + 1, m, by omega, by go_num, rfl, HM2.out, HS.out⟩
          | false =>
            have HM2 : Hid (m + 1 + Sh.cnt (l.drop (k + 1)) = Sh.cnt l) := by show _ = _; have h1 := HM.out; have h2 : Sh.cnt (l.drop k) = 1 + Sh.cnt (l.drop (k + 1)) := hM; omega
            have hmn : (m : Int) + 1 ≤ 1000000000000 := by have h1 := HM2.out; have := HCl.out; omega
            obtain ⟨g1, g2⟩ := HT.out.get (hK rfl)
            have CG : Hid (Calls Tryz.prog 15 #[.pointer (some ⟨s, 0, none⟩), .int .u32 (x.id : Nat)] wr fun e w' => ∃ b, e = .returned (.tuple #[.slice b x.b.length x.b.length, .int .i64 0]) ∧ Sg true w0 w' s d f T (Part.sl 5 b x.b.length x.b.length (nums .u8 x.b) :: E)) := by
              refine (Ss.get HS.out HT.out.ok x.id HGx.out.1).mono ?_
              rintro e w' ⟨b, k, he, hk, h⟩
              rw [g2] at hk h
              rw [g1] at he
              subst hk
              exact ⟨b, he, h⟩
            obtain ⟨c0, c1⟩ := HX.out _ _ _ HS.out
            clear hM hK HM g1 g2
            obtain ⟨nb, hnb⟩ : ∃ nb, x.b.length = nb := ⟨_, rfl⟩
            have Hnb := Lib.hid hnb
            rw [hnb] at CG c1
            clear hnb
            go_wp2_with fail
            refine CG.out.mono ?_
            rintro e w1 ⟨b1, rfl, s1⟩
            obtain ⟨c0, c1⟩ := HX.out _ _ _ (Sg.drop s1)
            rw [Hnb.out] at c1
            have C2 := Lib.hid (sameB_any w1 b1 x.b_a nb nb x.b_cap x.b Hnb.out (by have := HBx.out; have := Hnb.out; omega) (s1.rd List.mem_cons_self) (HGx.out.2.1.no s1.end))
            have S1 := Lib.hid (Sg.drop s1)
            clear s1 CG HS
            go_wp2_with fail
            refine C2.out.mono ?_
            rintro e w2 ⟨rfl, t2⟩
            have S2 := Lib.hid (S1.out.no t2)
            clear t2 C2 S1 c0 c1
            go_wp2
            go_roundg g
            case measure => omega
            case rel => exact ⟨k + 1, m + 1, by omega, by go_num, by go_num, HM2.out, S2.out⟩
        | succ g2 =>
          have hjl : j < l.length := by rw [HN.out]; omega
          obtain ⟨y, hy, cy⟩ := HAn.out _ _ _ HS.out j (by omega)
          obtain ⟨c0, c1⟩ := HX.out _ _ _ HS.out
          have hdr := Sh.any_drop hjl x.id
          rw [hy hjl] at hdr
          have hj1 : (j : Int) < (n : Nat) := by omega
          have HJ2 : Hid ((b || (decide (y = x.id) || (l.drop (j + 1)).any (fun y => y.id == x.id))) = (l.drop (k + 1)).any (fun y => y.id == x.id)) := by show _ = _; rw [← hdr]; exact HJ.out
          have HSd := Lib.hid (HS.out.no (Touch.refl No wr).drew)
          clear hdr hy hjl HJ
          obtain ⟨xi, hxi⟩ : ∃ xi, x.id = xi := ⟨_, rfl⟩
          have Hxi := Lib.hid hxi
          rw [hxi] at c0 HJ2
          clear hxi
          cases b with
          | true =>
            go_wp2_with fail
            go_quiet (fail)
            go_wp2
            go_roundg g2
            case measure => omega
            case rel => exact ⟨j + 1, true, by omega, by omega, rfl, by go_num, by have := HJ2.out; rw [← Hxi.out] at this; rw [Bool.true_or] at this ⊢; exact this, by first | exact HSd.out | exact HS.out.no ((Touch.refl No _).drewN _)⟩
          | false =>
            by_cases e : y = xi
            · subst e
              have HJ3 : Hid ((true || (l.drop (j + 1)).any (fun z => z.id == x.id)) = (l.drop (k + 1)).any (fun z => z.id == x.id)) := by have := HJ2.out; rw [decide_eq_true rfl, Bool.false_or, ← Hxi.out] at this; exact this
              clear HJ2
              go_wp2_with fail
              go_quiet (fail)
              go_wp2
              go_roundg g2
              case measure => omega
              case rel => exact ⟨j + 1, true, by omega, by omega, rfl, by go_num, HJ3.out, by first | exact HSd.out | exact HS.out.no ((Touch.refl No _).drewN _)⟩
            · have HJ3 : Hid ((false || (l.drop (j + 1)).any (fun z => z.id == x.id)) = (l.drop (k + 1)).any (fun z => z.id == x.id)) := by have := HJ2.out; rw [decide_eq_false e, Bool.false_or, ← Hxi.out] at this; exact this
              have hne : ((y : Int) == (xi : Int)) = false := by simp; omega
              have He := Lib.hid e
              clear HJ2 e
              go_wp2_with fail
              go_quiet (fail)
              go_wp2
              go_roundg g2
              case measure => omega
              case rel => exact ⟨j + 1, false, by omega, by omega, rfl, by go_num, HJ3.out, by first | exact HSd.out | exact HS.out.no ((Touch.refl No _).drewN _)⟩
end
end Go.Proofs.YtpmkegbgbldpnaaGreatDoor
namespace Go.Proofs.YtpmkegbgbldpnaaGreatDoor
open Go Go.RowKit
set_option linter.unusedSimpArgs false
set_option linter.unusedVariables false
/-- a row of s cells an element -/
def Part.rows (T : TypeId) (s : Nat) (v : Value) (m : Nat) (cs : List Value) : Part where
  P w O := w.ownsRow 0 T s v m cs ∧ (∀ k, InBlock v k → O k) ∧ ∀ k, O k → k < w.heap.size
  stable := fun {F w w' O} ⟨h1, h2, h3⟩ t hF => by
    refine ⟨?_, h2, fun k hk => Nat.lt_of_lt_of_le (h3 k hk) t.size⟩
    obtain ⟨hl, hh⟩ := h1
    refine ⟨hl, hh.imp id ?_⟩
    rintro ⟨g, cap, cur, rfl, hg, hgt, q⟩
    exact ⟨g, cap, cur, rfl, hg, by rw [t.block g (Array.getElem?_eq_some_iff.1 hgt).1 (hF g (h2 g rfl))]; exact hgt, q⟩
  lt := fun {w O} h => h.2.2
theorem rows_nil (w : World) (T : TypeId) (s : Nat) : Born w (Part.rows T s nilSl 0 []) w :=
  ⟨Touch.refl _ _, fun _ => False, ⟨⟨by simp, Or.inl ⟨rfl, rfl⟩⟩, ⟨(fun k h => by cases h), fun _ f => f.elim⟩⟩, fun _ f => f.elim⟩
/-- how it reads -/
theorem rows_cell {w : World} {T : TypeId} {s m : Nat} {v : Value} {cs : List Value} (h : w.ownsRow 0 T s v m cs) : ∃ a c, v = .slice a m c ∧ m ≤ c ∧ c ≤ maxLen ∧ Rd w a cs := by
  obtain ⟨hl, hh⟩ := h
  rcases hh with ⟨rfl, rfl⟩ | ⟨g, cap, cur, rfl, _, hg, hn, hm, hs, ht⟩
  · refine ⟨none, 0, rfl, Nat.le_refl _, Nat.zero_le _, fun i v hi => ?_⟩
    have : cs = [] := List.length_eq_zero_iff.1 (by rw [hl, Nat.zero_mul])
    rw [this] at hi; cases hi
  · refine ⟨_, cap, rfl, hn, hm, fun i v hi => ⟨g, 0, rfl, ?_⟩⟩
    have hi' : i < cs.length := by
      rcases Nat.lt_or_ge i cs.length with h | h
      · exact h
      · rw [List.getElem?_eq_none h] at hi; cases hi
    rw [← ht, List.getElem?_take_of_lt (by rw [← hl]; exact hi')] at hi
    rw [Nat.zero_add]
    simp only [World.cell?, hg]
    simpa using hi
section
variable {P : Program} {w : World}
/-- 'append(v, row...)', s cells each -/
theorem run_append_rows (base : Nat) (t ty e : TypeId) (i : TypeInfo) (z : Value) (s bytes : Nat) (ht : P.underlying t = some (.slice e)) (hi : P.info? e = some i) (hz : i.zero = some z) (hsize : i.size = s) (hby : i.bytes = bytes) (hzs : z.cells.size = s) (hs : 0 < s)
    (v : Value) (n : Nat) (vs : List Value) (hown : w.ownsRow base e s v n vs) (a : Option Addr) (m c : Nat) (us : List Value) (hl : us.length = m * s) (hr : Rd w a us) (h1 : ∀ u ∈ us, u.oneCell' = true)
    (h63 : n + m ≤ maxLen) (hbytes : (n + m) * bytes ≤ 140737488355328) (hbase : base ≤ w.heap.size) :
    ∃ v' w', (Builtin.append_ #[t, t] ty #[v, .slice a m c]).run P w = .ok v' w' ∧ w'.ownsRow base e s v' (n + m) (vs ++ us) ∧ Touch (InBlock v) w w' ∧ ∀ k, InBlock v' k → InBlock v k ∨ w.heap.size ≤ k := by
  cases a with
  | some ad =>
    have hnews : ∀ j u, us[j]? = some u → w.cell? (ad.add j) = some u := fun j u hj => by
      obtain ⟨b, o, e1, hc⟩ := hr j u hj
      cases e1
      unfold Addr.add
      split
      · rename_i h0; subst h0; exact hc
      · exact hc
    obtain ⟨v', w', h2, h3, h4, _, h5⟩ := run_append_own_at (P := P) w base t ty e i z s bytes ht hi hz hsize hby hzs hs v n vs hown ad m c us hl hnews h1 h63 hbytes hbase
    refine ⟨v', w', h2, h3, (Touch.refl _ w).grown h4 (fun k hk _ => hk), fun k hk => ?_⟩
    have hk' : v'.ownBlock = some k := hk
    rcases h5 with h5 | h5
    · exact Or.inl (by show v.ownBlock = some k; rw [← h5]; exact hk')
    · rw [h5] at hk'; cases hk'; exact Or.inr (Nat.le_refl _)
  | none =>
    have hus : us = [] := by
      cases us with
      | nil => rfl
      | cons u r => obtain ⟨b, o, e1, _⟩ := hr 0 u rfl; cases e1
    subst hus
    obtain rfl : m = 0 := by
      have h0 : m * s = 0 := hl.symm
      rcases Nat.mul_eq_zero.1 h0 with h | h
      · exact h
      · omega
    obtain ⟨b, cap, rfl, hcap, _⟩ : ∃ b cap, v = .slice b n cap ∧ n ≤ cap ∧ True := by
      rcases hown.2 with ⟨rfl, rfl⟩ | ⟨g, cap, cur, rfl, _, _, hc, _⟩
      · exact ⟨_, _, rfl, Nat.le_refl _, trivial⟩
      · exact ⟨_, _, rfl, hc, trivial⟩
    refine ⟨.slice b n cap, w, ?_, by rw [List.append_nil]; exact hown, Touch.refl _ _, fun k hk => Or.inl hk⟩
    cases b <;> simp [Builtin.append_, run_underlying ht, sizeOf, typeInfo, hi, Builtin.lenOf, hcap, Builtin.firstCells, storeCells]
theorem rowSlice' {w : World} {base e size n : Nat} {v : Value} {xs : List Value} (h : w.ownsRow base e size v n xs) : ∃ a c, v = .slice a n c := by
  rcases h.2 with ⟨rfl, rfl⟩ | ⟨g, cap, cur, rfl, _⟩
  · exact ⟨_, _, rfl⟩
  · exact ⟨_, _, rfl⟩
/-- .. where the walk comes to it in a guarded operation -/
theorem wp_append_rows {o : Oper} {ac : Act} {K : Act → World → Prop} {Q : Exit → Act → World → Prop} (s x : Operand) (t : TypeId) (ho : o.op = .call { callee := .builtin .append, args := #[s, x], argTypes := #[t, t] })
    (e : TypeId) (i : TypeInfo) (z : Value) (size bytes : Nat) (ht : P.underlying t = some (.slice e)) (hi : P.info? e = some i) (hz : i.zero = some z) (hsize : i.size = size) (hby : i.bytes = bytes) (hzs : z.cells.size = size) (hsz : 0 < size)
    (v : Value) (n : Nat) (vs : List Value) (hown : w.ownsRow 0 e size v n vs) (hs : ac.eval s = v) (ad : Option Addr) (m c : Nat) (us : List Value) (hx : ac.eval x = .slice ad m c) (hl : us.length = m * size) (hr : Rd w ad us) (h1 : ∀ u ∈ us, u.oneCell' = true)
    (h63 : n + m ≤ maxLen) (hbytes : (n + m) * bytes ≤ 140737488355328)
    (h : ∀ a' c' w', w'.ownsRow 0 e size (.slice a' (n + m) c') (n + m) (vs ++ us) → Touch (InBlock v) w w' → (∀ k, InBlock (.slice a' (n + m) c') k → InBlock v k ∨ w.heap.size ≤ k) → K (ac.put o.dst (.slice a' (n + m) c')) w') : o.wp P ac w K Q :=
  wp_append_run s x t t ho v _ hs hx (R := fun v' w' => w'.ownsRow 0 e size v' (n + m) (vs ++ us) ∧ Touch (InBlock v) w w' ∧ ∀ k, InBlock v' k → InBlock v k ∨ w.heap.size ≤ k) (run_append_rows 0 t _ e i z size bytes ht hi hz hsize hby hzs hsz v n vs hown ad m c us hl hr h1 h63 hbytes (Nat.zero_le _)) fun v' w' hh => by
    obtain ⟨a', c', rfl⟩ := rowSlice' hh.1
    exact h a' c' w' hh.1 hh.2.1 hh.2.2
/-- .. in a plain region -/
theorem wpList_append_rows {ops : Array Oper} {rest : List Oper} {o : Oper} {ac : Act} {Q : Exit → Act → World → Prop} (hgd : o.guard = none) (s x : Operand) (t : TypeId) (ho : o.op = .call { callee := .builtin .append, args := #[s, x], argTypes := #[t, t] })
    (e : TypeId) (i : TypeInfo) (z : Value) (size bytes : Nat) (ht : P.underlying t = some (.slice e)) (hi : P.info? e = some i) (hz : i.zero = some z) (hsize : i.size = size) (hby : i.bytes = bytes) (hzs : z.cells.size = size) (hsz : 0 < size)
    (v : Value) (n : Nat) (vs : List Value) (hown : w.ownsRow 0 e size v n vs) (hs : ac.eval s = v) (ad : Option Addr) (m c : Nat) (us : List Value) (hx : ac.eval x = .slice ad m c) (hl : us.length = m * size) (hr : Rd w ad us) (h1 : ∀ u ∈ us, u.oneCell' = true)
    (h63 : n + m ≤ maxLen) (hbytes : (n + m) * bytes ≤ 140737488355328)
    (h : ∀ a' c' w', w'.ownsRow 0 e size (.slice a' (n + m) c') (n + m) (vs ++ us) → Touch (InBlock v) w w' → (∀ k, InBlock (.slice a' (n + m) c') k → InBlock v k ∨ w.heap.size ≤ k) → wpList P ops Q rest (ac.put o.dst (.slice a' (n + m) c')) w') : wpList P ops Q (o :: rest) ac w :=
  wpList_plain hgd fun _ hK => wp_append_rows s x t ho e i z size bytes ht hi hz hsize hby hzs hsz v n vs hown hs ad m c us hx hl hr h1 h63 hbytes fun a' c' w' p q r => hK _ _ (h a' c' w' p q r)
end
end Go.Proofs.YtpmkegbgbldpnaaGreatDoor
namespace Go.Proofs.YtpmkegbgbldpnaaGreatDoor
set_option maxRecDepth 100000
open Go Go.RowKit
set_option linter.unusedSimpArgs false
set_option linter.unusedVariables false
namespace Sh
def but (id : Nat) (l : List TgDeed) : List TgDeed := l.filter fun x => !decide (x.id = id)
theorem putC_snoc (c : List (Nat × List Nat)) (l : List TgDeed) (x : TgDeed) : putC c (l ++ [x]) = Mp.put (putC c l) x.id x.b := by rw [putC_append]; rfl
end Sh
/-- things' cells, one behind the other -/
def tgCells (l : List TgDeed) : List Value := l.flatMap TgDeed.cells
theorem tgCells_length (l : List TgDeed) : (tgCells l).length = l.length * 2 := by
  induction l with
  | nil => rfl
  | cons x r ih =>
    show (x.cells ++ tgCells r).length = _
    rw [List.length_append, ih, List.length_cons]
    show 2 + _ = _
    omega
theorem tgCells_at {l : List TgDeed} {i j : Nat} {x : TgDeed} (h : l[i]? = some x) (hj : j < 2) : (tgCells l)[i * 2 + j]? = x.cells[j]? := by
  induction l generalizing i with
  | nil => cases h
  | cons y r ih =>
    show (y.cells ++ tgCells r)[_]? = _
    cases i with
    | zero =>
      obtain rfl : y = x := by simpa using h
      rw [Nat.zero_mul, Nat.zero_add, List.getElem?_append_left (by show j < 2; exact hj)]
    | succ i =>
      rw [List.getElem?_append_right (by show 2 ≤ _; omega), show (i + 1) * 2 + j - y.cells.length = i * 2 + j by show _ - 2 = _; omega]
      exact ih (by simpa using h)
theorem tgCells_one (l : List TgDeed) : ∀ u ∈ tgCells l, u.oneCell' = true := by
  intro u hu
  obtain ⟨x, _, hx⟩ := List.mem_flatMap.1 hu
  simp only [TgDeed.cells, List.mem_cons, List.not_mem_nil, or_false] at hx
  rcases hx with rfl | rfl <;> rfl
theorem tgCells_append (l m : List TgDeed) : tgCells (l ++ m) = tgCells l ++ tgCells m := List.flatMap_append
/-- a list of things that the law made -/
def Part.tgs (v : Value) (l : List TgDeed) : Part := Part.rows 49 2 v l.length (tgCells l)
theorem tgs_row {w : World} {a : Option Addr} {n c : Nat} {l : List TgDeed} {O : Nat → Prop} (h : (Part.tgs (.slice a n c) l).P w O) : TgRow w a l := fun i x hx => by
  obtain ⟨a', c', e, _, _, hr⟩ := rows_cell h.1
  simp only [Value.slice.injEq] at e
  obtain ⟨rfl, rfl, rfl⟩ := e
  obtain ⟨b0, o0, e0, h0⟩ := hr (i * 2 + 0) _ (by rw [tgCells_at hx (by decide)]; rfl)
  refine ⟨b0, o0, e0, fun j hj => ?_⟩
  obtain ⟨v, hv⟩ := x.some hj
  obtain ⟨b1, o1, e1, h1⟩ := hr (i * 2 + j) v (by rw [tgCells_at hx hj]; exact hv)
  rw [e0] at e1
  cases e1
  rw [hv, Nat.add_assoc]
  exact h1
theorem tgs_any {w0 : World} {s d : Nat} {E : List Part} {a : Option Addr} {n c : Nat} {l : List TgDeed} (h : Part.tgs (.slice a n c) l ∈ E) : TgAny w0 s d E a l := fun w' f' T' hs => by
  obtain ⟨A, hA, _⟩ := Dd.rest hs (List.mem_cons_of_mem _ (List.mem_cons_of_mem _ h))
  exact tgs_row hA
section
variable {u : Bool} {w0 w w' : World} {s d f : Nat} {T : Sh.Sto} {E : List Part}
theorem Sg.head {p : Part} (h : Sg u w0 w s d f T (p :: E)) : ∃ A, p.P w A ∧ (∀ k, A k → w0.heap.size ≤ k ∧ k < w.heap.size) ∧ ∀ w' l', TurnsL w A l' w' → Sg u w0 w' s d f T (l' ++ E) := by
  obtain ⟨A, h1, h2, _, h4⟩ := Dd.with (Dd.perm h (((List.Perm.swap _ _ _).cons _).trans (List.Perm.swap _ _ _)))
  refine ⟨A, h1, h2, fun w' l' ht => ?_⟩
  have := h4 w' l' ht
  refine Dd.perm this ?_
  exact (List.perm_append_comm_assoc l' [_, _] E)
/-- a copy of a list of things -/
theorem Sg.tgNew (h : Sg u w0 w s d f T E) {v : Value} {l : List TgDeed} (ho : w'.ownsRow 0 49 2 v l.length (tgCells l)) (t : Touch No w w') (hb : ∀ k, InBlock v k → w.heap.size ≤ k) : Sg u w0 w' s d f T (Part.tgs v l :: E) :=
  Sg.push h ⟨t, fun k => InBlock v k, ⟨ho, fun k hk => hk, fun k hk => by
    rcases ho.2 with ⟨rfl, _⟩ | ⟨g, cap, cur, rfl, _, hg, _⟩
    · cases hk
    · cases hk; exact (Array.getElem?_eq_some_iff.1 hg).1⟩, hb⟩
/-- .. that grows -/
theorem Sg.tgGrow {v v' : Value} {l l' : List TgDeed} (h : Sg u w0 w s d f T (Part.tgs v l :: E)) (ho : w'.ownsRow 0 49 2 v' l'.length (tgCells l')) (t : Touch (InBlock v) w w') (hb : ∀ k, InBlock v' k → InBlock v k ∨ w.heap.size ≤ k) : Sg u w0 w' s d f T (Part.tgs v' l' :: E) := by
  obtain ⟨A, ⟨h1, h2, h3⟩, hA, hf⟩ := Sg.head h
  refine hf w' [Part.tgs v' l'] ⟨t.mono (fun k _ hk => h2 k hk), fun k => InBlock v' k, ?_, fun k hk => (hb k hk).imp (h2 k) id⟩
  refine ⟨fun k => InBlock v' k, fun _ => False, ⟨ho, fun k hk => hk, fun k hk => ?_⟩, trivial, fun _ _ f => f, fun _ h => h, fun _ f => f.elim⟩
  rcases ho.2 with ⟨rfl, _⟩ | ⟨g, cap, cur, rfl, _, hg, _⟩
  · cases hk
  · cases hk; exact (Array.getElem?_eq_some_iff.1 hg).1
theorem Sg.tgOwn {v : Value} {l : List TgDeed} (h : Sg u w0 w s d f T E) (hm : Part.tgs v l ∈ E) : w.ownsRow 0 49 2 v l.length (tgCells l) := by
  obtain ⟨A, hA, _⟩ := Dd.rest h (List.mem_cons_of_mem _ (List.mem_cons_of_mem _ hm))
  exact hA.1
end
theorem tg_is : ∃ i z, TypeIs 49 i z 2 32 [.int .u32 0, .slice none 0 0] := type_is (by kernel_rfl)
end Go.Proofs.YtpmkegbgbldpnaaGreatDoor
namespace Go.Proofs.YtpmkegbgbldpnaaGreatDoor
open Go Go.RowKit
set_option linter.unusedSimpArgs false
set_option linter.unusedVariables false
theorem TabAt.no {w w' : World} (h : TabAt w) (t : Touch No w w') : TabAt w' := fun j hj => t.cell (fun f => f) (h j hj)
section
variable {w0 w w' : World} {s d f : Nat} {T : Sh.Sto} {E : List Part}
theorem Ss.freeB {c : List (Nat × List Nat)} {e n : Nat} (h : Sg true w0 w s d f T E) {F : Nat} (hF : (Fr.lst T.S).length = F) : Calls Tryz.prog 20 #[.pointer (some ⟨s, 0, none⟩)] w fun e w' => e = .returned (.int .i64 (F : Nat)) ∧ w = w' := by
  have := Ss.freeC h
  rw [hF] at this
  exact this
end
end Go.Proofs.YtpmkegbgbldpnaaGreatDoor
namespace Go.Proofs.YtpmkegbgbldpnaaGreatDoor
open Go Go.RowKit
set_option linter.unusedSimpArgs false
set_option linter.unusedVariables false
section
variable {w0 w w' : World} {s d f : Nat} {D : Dk.Disk} {T : Sh.Sto} {E : List Part}
theorem shOpen_again (h : Dd w0 w d D E) (lo : 32 ≤ D.seen.length) (hi : D.seen.length ≤ 16384) (hrd : Sh.readsP D = .ok T) (hu : Mp.Up T.kept) (hlt : ∀ p ∈ T.kept, p.1 < 4294967296) (hl : T.kept.length ≤ 64) :
    Calls Tryz.prog 13 #[.pointer (some ⟨d, 0, none⟩)] w fun e w' => ∃ s f, e = .returned (.tuple #[.pointer (some ⟨s, 0, none⟩), .int .i64 0]) ∧ Sg true w0 w' s d f { T with now := T.kept, puts := 64 } E := by
  refine shOpen_ok h lo hi T hu hlt hl (fun w2 s2 E2 h2 => (shReads_any h2 lo hi).mono ?_)
  rintro e w' (⟨T', f, e1, _, he, hs⟩ | ⟨k, b, st, e1, _⟩)
  · rw [hrd] at e1
    cases e1
    exact ⟨he, f, hs⟩
  · rw [hrd] at e1; cases e1
end
namespace Sh
set_option maxRecDepth 100000 in
theorem com_calm_disk {T : Sto} (h : comE T = 0) : (comT T).D.sure = (comT T).D.seen ∧ (comT T).D.waits = [] := by
  have hf : comF T := by
    by_cases hf : comF T
    · exact hf
    · rw [comE, if_neg hf] at h; cases h
  have hr : Rt.wE (comD2 T) (comR T) = 0 := by rw [comE, if_pos hf] at h; exact h
  rw [comT, if_pos hf, if_pos hr]
  show (Rt.wD _ _).sure = (Rt.wD _ _).seen ∧ (Rt.wD _ _).waits = []
  rw [Rt.wD, if_pos hr]
  exact ⟨rfl, rfl⟩
/-- however it fails, what was committed is there -/
structure Kept (U : Sto) (keep : Nat) (torn : Int) (D : Dk.Disk) : Prop where
  len : (Dk.fail D keep torn).seen.length = U.D.seen.length
  at_ : ∀ n, Prot U.table U.kept n → Dk.at_ (Dk.fail D keep torn).seen n = Dk.at_ U.D.seen n
theorem Safe.kept {U : Sto} {D : Dk.Disk} (h : Safe U.D (Prot U.table U.kept) D) (keep : Nat) (torn : Int) : Kept U keep torn D := ⟨(h.fail keep torn).1, (h.fail keep torn).2.1⟩
end Sh
end Go.Proofs.YtpmkegbgbldpnaaGreatDoor
namespace Go.Proofs.YtpmkegbgbldpnaaGreatDoor
set_option maxRecDepth 100000
open Go Go.RowKit
set_option linter.unusedSimpArgs false
set_option linter.unusedVariables false
namespace Sh
theorem putE_cases {T : Sto} {id n : Nat} (h1 : n ≤ 65536) (h2 : T.now.length < 64) : putE T id n = 0 ∨ putE T id n = 6 := by
  unfold putE
  rw [if_neg (by omega), if_neg (fun e => by have := e.2; omega)]
  split
  · exact Or.inr rfl
  · exact Or.inl rfl
theorem putT_no {T : Sto} {id : Nat} {b : List Nat} (h : putE T id b.length ≠ 0) : putT T id b = T := by rw [putT, if_neg h]
theorem putT_len (T : Sto) (id : Nat) (b : List Nat) : (putT T id b).D.seen.length = T.D.seen.length := by
  unfold putT; split
  · exact Ex.wD_len _ _ _ _
  · rfl
theorem putC_le (l : List TgDeed) : (putC [] l).length ≤ l.length := by rw [putC_len]; exact cnt_le l
/-- things that are put, of which some have no room -/
structure Part1 (n i : Nat) (l th : List TgDeed) (T : Sto) : Prop where
  has : Has T (putC [] th) []
  root : Rt.At T.D T.epoch
  eps : Eps T
  ep : T.epoch = 0
  size : T.D.seen.length = n
  len : th.length ≤ i
  sub : ∀ x ∈ th, x ∈ l
  waits : T.D.waits.length ≤ 300 * i
  puts : T.puts ≤ 64 + i
theorem part1_new {n : Nat} (h1 : 32 ≤ n) (h2 : n ≤ 16384) (l : List TgDeed) : Part1 n 0 l [] (newS (Dk.new n)) := by
  have hlen : (Dk.new n).seen.length = n := by simp [Dk.new]
  exact ⟨Has.new (by rw [hlen]; exact h1) (by rw [hlen]; exact h2), root_new (by omega), Eps.new _, rfl, hlen, Nat.le_refl _, fun x hx => (by cases hx), Nat.le_refl _, Nat.le_refl _⟩
theorem fits_len {l : List TgDeed} (h : Fits l) {x : TgDeed} (hx : x ∈ l) : Ex.pages x.b.length ≤ 62 := by
  have h2 := h.pgs
  have : Ex.pages x.b.length ≤ pgSum l := by
    clear h h2
    induction l with
    | nil => cases hx
    | cons y r ih =>
      have e : pgSum (y :: r) = Ex.pages y.b.length + pgSum r := by simp [pgSum]
      rcases List.mem_cons.1 hx with rfl | hx
      · omega
      · have := ih hx; omega
  omega
theorem Part1.yes {n i : Nat} {l th : List TgDeed} {T : Sto} (h : Part1 n i l th T) (hl : Fits l) {x : TgDeed} (hx : x ∈ l) (he : putE T x.id x.b.length = 0) : Part1 n (i + 1) l (th ++ [x]) (putT T x.id x.b) := by
  have hp := fits_len hl hx
  have hw := waits_put T x.id x.b
  have hq := putT_puts T x.id x.b
  refine ⟨?_, h.has.root_put h.root _ _, h.eps.put (by rw [h.ep]; decide) _ _, (putT_ep _ _ _).trans h.ep, (putT_len _ _ _).trans h.size, ?_, fun y hy => ?_, ?_, ?_⟩
  · rw [putC_snoc]; exact h.has.put (hl.each x hx).1 he
  · rw [List.length_append]; have := h.len; show _ + 1 ≤ _; omega
  · rcases List.mem_append.1 hy with hy | hy
    · exact h.sub y hy
    · rw [List.mem_singleton] at hy; rw [hy]; exact hx
  · have := h.waits; omega
  · have := h.puts; omega
theorem Part1.no {n i : Nat} {l th : List TgDeed} {T : Sto} (h : Part1 n i l th T) : Part1 n (i + 1) l th T :=
  ⟨h.has, h.root, h.eps, h.ep, h.size, Nat.le_succ_of_le h.len, h.sub, by have := h.waits; omega, by have := h.puts; omega⟩
/-- a commit of these -/
theorem Part1.com {n i : Nat} {l th : List TgDeed} {T : Sto} (h : Part1 n i l th T) : (comE T ≠ 0 ∧ comT T = T) ∨ comE T = 0 := by
  by_cases hf : comF T
  · exact Or.inr (h.has.com_yes h.root hf (by rw [h.ep]; decide)).1
  · refine Or.inl ⟨by rw [comE, if_neg hf]; decide, by rw [comT, if_neg hf]⟩
/-- .. and others behind it -/
structure Part2 (U : Sto) (c0 : List (Nat × List Nat)) (i : Nat) (l th : List TgDeed) (V : Sto) : Prop where
  has : Has V (putC [] th) c0
  table : V.table = U.table
  kept : V.kept = U.kept
  safe : Safe U.D (Prot U.table U.kept) V.D
  len : th.length ≤ 30 + i
  sub : ∀ x ∈ th, x ∈ l
  waits : V.D.waits.length ≤ 300 * i
  puts : V.puts ≤ 64 + i
theorem Part1.two {n i : Nat} {l m th : List TgDeed} {T : Sto} (h : Part1 n i l th T) (hi : i ≤ 30) (h0 : comE T = 0) : Part2 (comT T) (putC [] th) 0 (l ++ m) th (comT T) := by
  obtain ⟨a1, a2, a3, a4, a5, a6⟩ := h.has.com_yes h.root (by
    by_cases hf : comF T
    · exact hf
    · rw [comE, if_neg hf] at h0; cases h0) (by rw [h.ep]; decide)
  have hc := com_calm_disk h0
  exact ⟨h.has.com h0, rfl, rfl, Safe.start hc.1 hc.2, by have := h.len; omega, fun x hx => List.mem_append_left _ (h.sub x hx), by rw [hc.2]; exact Nat.le_refl _, by rw [a6]; exact Nat.le_refl _⟩
theorem Part2.yes {U V : Sto} {c0 : List (Nat × List Nat)} {i : Nat} {l th : List TgDeed} (h : Part2 U c0 i l th V) {x : TgDeed} (hx : x ∈ l) (hi : x.id < 4294967296) (hp : Ex.pages x.b.length ≤ 62) (he : putE V x.id x.b.length = 0) : Part2 U c0 (i + 1) l (th ++ [x]) (putT V x.id x.b) := by
  have hw := waits_put V x.id x.b
  have hq := putT_puts V x.id x.b
  have hs := Safe.put (D2 := U.D) h.has.ok (by rw [h.table, h.kept]; exact h.safe) x.id x.b
  rw [h.table, h.kept] at hs
  refine ⟨?_, (putT_table _ _ _).trans h.table, (putT_kept _ _ _).trans h.kept, hs, ?_, fun y hy => ?_, ?_, ?_⟩
  · rw [putC_snoc]; exact h.has.put hi he
  · rw [List.length_append]; have := h.len; show _ + 1 ≤ _; omega
  · rcases List.mem_append.1 hy with hy | hy
    · exact h.sub y hy
    · rw [List.mem_singleton] at hy; rw [hy]; exact hx
  · have := h.waits; omega
  · have := h.puts; omega
theorem Part2.no {U V : Sto} {c0 : List (Nat × List Nat)} {i : Nat} {l th : List TgDeed} (h : Part2 U c0 i l th V) : Part2 U c0 (i + 1) l th V :=
  ⟨h.has, h.table, h.kept, h.safe, Nat.le_succ_of_le h.len, h.sub, by have := h.waits; omega, by have := h.puts; omega⟩
theorem Part2.now {U V : Sto} {c0 : List (Nat × List Nat)} {i : Nat} {l th : List TgDeed} (h : Part2 U c0 i l th V) : V.now.length ≤ 30 + i := by
  rw [h.has.len]; exact Nat.le_trans (putC_le th) h.len
/-- .. opened again -/
theorem full_open {n i : Nat} {l th : List TgDeed} {T : Sto} (h : Part1 n i l th T) (h0 : comE T = 0) {keep : Nat} {torn : Int} {D : Dk.Disk} (U : Sto) (hU : U = comT T) (hk : Kept U keep torn D) :
    readsP (Dk.fail D keep torn) = .ok { U with D := Dk.fail D keep torn, now := [], puts := 0 } ∧ Has { U with D := Dk.fail D keep torn, now := U.kept, puts := 64 } (putC [] th) (putC [] th) ∧ (Dk.fail D keep torn).seen.length = n ∧ Mp.Up U.kept ∧ (∀ p ∈ U.kept, p.1 < 4294967296) ∧ U.kept.length ≤ 64 := by
  have hf : comF T := by
    by_cases hf : comF T
    · exact hf
    · rw [comE, if_neg hf] at h0; cases h0
  obtain ⟨r1, r2⟩ := reopen h.has h.root hf (by rw [h.ep]; decide) h.eps (D' := Dk.fail D keep torn) (by rw [← hU]; exact hk.len) (by rw [← hU]; exact hk.at_)
  rw [← hU] at r1 r2
  have hc := h.has.com h0
  rw [← hU] at hc
  have e : (comT T).D.seen.length = T.D.seen.length := by
    have hr : Rt.wE (comD2 T) (comR T) = 0 := by have := h0; rw [comE, if_pos hf] at this; exact this
    rw [comT, if_pos hf, if_pos hr]
    show (Rt.wD _ _).seen.length = _
    rw [wD_root_len, comD2_len]
  exact ⟨r1, r2, by rw [hk.len, hU, e, h.size], hc.ok.upk, fun p hp => (hc.ok.thk p hp).id, hc.ok.lenk⟩
end Sh
end Go.Proofs.YtpmkegbgbldpnaaGreatDoor
