/-
  Package nums by its own text: put, PutFour, four, GetFour.
-/
import Derived.Test.YtkiehoboeiengaaProg
import Derived.Test.YtkiehoboeiengaaK10
import Derived.Test.YtkiehoboeiengaaK09
import Derived.Test.YtkiehoboeiengaaK11
import Derived.Deep.LoopGhost
import Derived.Laws.MakeOwn
import Derived.Laws.CopyOwn
import Derived.Laws.BitsAllLaws
namespace Go.Proofs.Ytkiehoboeiengaa
open Go Go.RowKit
set_option linter.unusedSimpArgs false

/-- what a type's zero and room are (one cell) -/
theorem one_info {T : TypeId} {k : IntKind} {bytes : Nat} (h : (Try.prog.info? T).map (fun i => (i.zero, i.size, i.bytes)) = some (some (.int k 0), 1, bytes)) :
    ∃ i, Try.prog.info? T = some i ∧ i.zero = some (.int k 0) ∧ i.size = 1 ∧ i.bytes = bytes := by
  cases hi : Try.prog.info? T with
  | none => simp [hi] at h
  | some i =>
    rw [hi] at h
    simp only [Option.map_some, Option.some.injEq, Prod.mk.injEq] at h
    exact ⟨i, rfl, h.1, h.2.1, h.2.2⟩
theorem u8_info : ∃ i, Try.prog.info? 5 = some i ∧ i.zero = some (.int .u8 0) ∧ i.size = 1 ∧ i.bytes = 1 := one_info (by kernel_rfl)

theorem made_zeros (n : Nat) : madeCells #[Value.int .u8 0] n = (List.replicate n (Value.int .u8 0)).toArray := by
  apply Array.ext'
  refine List.ext_getElem? (fun j => ?_)
  unfold madeCells
  by_cases hj : j < n
  · simp [hj, List.getElem?_replicate, Nat.mod_one]
  · simp [hj, List.getElem?_replicate]

theorem rd_new (w : World) (T : TypeId) (vs : Array Value) (fr : Nat × Nat) : Rd (w.alloc (.cells vs T fr)) (some ⟨w.heap.size, 0, none⟩) vs.toList := by
  intro i v hi
  refine ⟨_, _, rfl, ?_⟩
  have hh := heap_alloc_new w (.cells vs T fr)
  simp only [World.cell?]; rw [hh, Nat.zero_add]
  simpa using hi
theorem four_cells {x : Nat} (h : x < 4294967296) : #[Value.int IntKind.u8 ((x : Int) % 256), Value.int IntKind.u8 ((x : Int) / 256 % 256), Value.int IntKind.u8 ((x : Int) / 65536 % 256), Value.int IntKind.u8 ((x : Int) / 16777216)].toList = nums .u8 (Rt.four x) := by
  have e0 : (x : Int) % 256 = ((x % 256 : Nat) : Int) := by omega
  have e1 : (x : Int) / 256 % 256 = ((x / 256 % 256 : Nat) : Int) := by omega
  have e2 : (x : Int) / 65536 % 256 = ((x / 65536 % 256 : Nat) : Int) := by omega
  have e3 : (x : Int) / 16777216 = ((x / 16777216 % 256 : Nat) : Int) := by omega
  rw [e0, e1, e2, e3]; rfl
/-- put: numbers behind bytes, in memory of their own -/
def PutPost (w : World) (xs : List Nat) (N : Nat) (e : Ending) (w' : World) : Prop :=
  ∃ a c, e = .returned (.slice a N c) ∧ Own w' w.heap.size 5 (.slice a N c) (nums .u8 xs) ∧ Touch No w w'

set_option maxRecDepth 100000 in
set_option maxHeartbeats 2000000 in
theorem put_any (w : World) (a : Option Addr) (n c : Nat) (b : List Nat) (hb : b.length = n) (hr : Rd w a (nums .u8 b)) (al : Option Addr) (m cl : Nat) (l : List Nat) (hl : l.length = m) (hrl : Rd w al (nums .u32 l)) (hl32 : ∀ x ∈ l, x < 4294967296) (hsz : (n : Int) + 4 * (m : Int) ≤ 100000000000000) (N : Nat) (hN : n + 4 * m = N) :
    Calls Try.prog 87 #[.slice a n c, .slice al m cl] w (PutPost w (b ++ l.flatMap Rt.four) N) := by
  have HN := Lib.hid hN
  clear hN
  obtain ⟨I, hi0, hi1, hi2, hi3⟩ := u8_info
  have Hb := Lib.hid hb
  have Hr := Lib.hid hr
  have Hl := Lib.hid hl
  have Hrl := Lib.hid hrl
  have Hl32 := Lib.hid hl32
  have hmk : ∀ wx : World, (Instr.makeSlice 34 (.int .i64 (n : Int)) (.int .i64 ((n : Int) + 4 * (m : Int)))).run Try.prog wx = .ok (.slice (some ⟨wx.heap.size, 0, none⟩) n (n + 4 * m)) (wx.alloc (.cells (List.replicate (n + 4 * m) (Value.int .u8 0)).toArray 5)) := fun wx => by
    have := run_make (P := Try.prog) wx 34 5 I (.int .u8 0) Try.underlying34 hi0 hi1 .i64 .i64 (n : Int) ((n : Int) + 4 * (m : Int)) (by omega) (by omega) (by rw [hi3]; omega) (by omega)
    rw [this, hi2, Int.toNat_natCast, show ((n : Int) + 4 * (m : Int)).toNat = n + 4 * m by omega, Nat.mul_one]
    show Result.ok _ (wx.alloc (.cells (madeCells #[Value.int .u8 0] _) _)) = _
    rw [made_zeros]
  have hmul : IntKind.i64.wrap (4 * (m : Int)) = 4 * (m : Int) := IntWalk.i64_in _ (by omega)
  have hadd : IntKind.i64.wrap ((n : Int) + 4 * (m : Int)) = (n : Int) + 4 * (m : Int) := IntWalk.i64_in _ (by omega)
  have Hi := Lib.hid (And.intro hi0 (And.intro hi1 (And.intro hi2 hi3)))
  clear hb hr hl hrl hl32 hi0 hi1 hi2 hi3
  go_enter Try.func87, Try.ntmps87
  go_wp2_with (refine wpList_copy_splice rfl _ _ _ _ rfl 5 Try.underlying34 (by kernel_rfl) (some ⟨w.heap.size, 0, none⟩) a n (n + 4 * m) n c ?hd ?hs w.heap.size 0 (List.replicate (n + 4 * m) (Value.int .u8 0)) 5 (heap_alloc_new w _) (nums .u8 b) ?c1 ?c2 ?c3 (nums_one _ _) w.heap.size w ?c4 (Nat.le_refl _) ?_)
  case hd => rfl
  case hs => rfl
  case c1 => rw [nums_length, Hb.out]; exact (Nat.min_self n).symm
  case c2 =>
    intro h0
    rw [nums_length] at h0
    obtain ⟨g0, o0, ea, _⟩ := Hr.out.num (i := 0) h0
    refine ⟨_, ea, fun j v hj => ?_⟩
    obtain ⟨g', o', e', hc⟩ := Hr.out j v hj
    rw [ea] at e'; cases e'
    rw [add_off]
    exact ((Touch.refl No w).alloc _).cell id hc
  case c3 => rw [nums_length, Hb.out, List.length_replicate]; omega
  case c4 => exact (Below.refl _ w).alloc (Nat.le_refl _) _
  intro w2 HG2 hB2
  have t2 : Touch No w w2 := (Touch.of_below hB2).mono (fun k hk f => absurd hk (Nat.not_lt.2 f))
  have o2 : Own w2 w.heap.size 5 (.slice (some ⟨w.heap.size, 0, none⟩) n (n + 4 * m)) (nums .u8 b) := by
    have hg := HG2.out
    have hl : (nums .u8 b).length = n := by rw [nums_length, Hb.out]
    refine ⟨by omega, .inr ⟨w.heap.size, n + 4 * m, _, by rw [hl], Nat.le_refl _, hg, by omega, by unfold maxLen; omega, ?_, ?_⟩⟩
    · rw [List.size_toArray]; simp only [Go.splice, List.take_zero, List.nil_append, Nat.zero_add, List.length_append, List.length_drop, List.length_replicate]; omega
    · rw [hl]; simp only [Go.splice, List.take_zero, List.nil_append, Nat.zero_add]
      rw [Nat.mul_one, ← hl]; exact List.take_left
  have O2 := Lib.hid o2
  have T2 := Lib.hid t2
  clear HG2 hB2 t2 o2 hmk hmul hadd
  go_wp2
  go_loopg [5, 22] m (fun g s5 s22 wr => ∃ (k : Nat) (v : Value), k + g = m ∧ s22 = .int .i64 ((k : Nat) : Int) ∧ s5 = v ∧ Hid (Own wr w.heap.size 5 v (nums .u8 (b ++ (l.take k).flatMap Rt.four))) ∧ Hid (Touch No w wr))
  case atStart => exact ⟨0, _, by omega, rfl, rfl, by rw [List.take_zero, List.flatMap_nil, List.append_nil]; exact O2.out, T2.out⟩
  case round =>
    obtain ⟨k, v, hkg, rfl, rfl, O, T⟩ := hrel
    cases gk with
    | zero =>
      obtain rfl : k = m := by omega
      have hO := O.out
      rw [List.take_of_length_le (by rw [Hl.out]; exact Nat.le_refl _)] at hO
      have HO := Lib.hid hO
      clear hO
      go_wp2
      go_ret
      have h4 : ∀ q : List Nat, (q.flatMap Rt.four).length = q.length * 4 := fun q => by
        induction q with
        | nil => rfl
        | cons y q ih => rw [List.flatMap_cons, List.length_append, ih, Rt.four_length, List.length_cons]; omega
      obtain ⟨a', c', rfl, _⟩ := HO.out.form' (n := N) (by rw [nums_length, List.length_append, h4, Hb.out, Hl.out, ← HN.out]; omega)
      exact ⟨a', c', rfl, HO.out, T.out⟩
    | succ g =>
      have hlt : (k : Int) < (m : Nat) := by omega
      have hkl : k < l.length := by rw [Hl.out]; omega
      obtain ⟨gl, ol, rfl, hcl⟩ := (Hrl.out.no T.out).num hkl
      have hx32 := Hl32.out (l.getD k 0) (by rw [List.getD_eq_getElem?_getD, List.getElem?_eq_getElem hkl]; exact List.getElem_mem hkl)
      have hnext : Hid (b ++ (l.take (k + 1)).flatMap Rt.four = (b ++ (l.take k).flatMap Rt.four) ++ Rt.four (l.getD k 0)) := by
        show _ = _
        rw [List.take_succ_eq_append_getElem hkl, List.flatMap_append, List.flatMap_cons, List.flatMap_nil, List.append_nil, List.append_assoc, List.getD_eq_getElem?_getD, List.getElem?_eq_getElem hkl]; rfl
      obtain ⟨x, hx⟩ : ∃ x, l.getD k 0 = x := ⟨_, rfl⟩
      rw [hx] at hcl hx32 hnext
      have Hkl := Lib.hid hkl
      clear hx hkl
      have hlen : (nums .u8 (b ++ (l.take k).flatMap Rt.four)).length = n + 4 * k := by
        have h4 : ∀ q : List Nat, (q.flatMap Rt.four).length = q.length * 4 := fun q => by
          induction q with
          | nil => rfl
          | cons y q ih => rw [List.flatMap_cons, List.length_append, ih, Rt.four_length, List.length_cons]; omega
        rw [nums_length, List.length_append, h4, Hb.out, List.length_take, Hl.out]; omega
      have Hlen := Lib.hid hlen
      have hwr := T.out.size
      clear hlen
      go_wp2_with (refine wpList_append_rd rfl _ _ _ rfl w.heap.size 5 I (.int .u8 0) 1 Try.underlying34 Hi.out.1 Hi.out.2.1 Hi.out.2.2.1 Hi.out.2.2.2 rfl _ (nums .u8 (b ++ (l.take k).flatMap Rt.four)) (O.out.touch ((Touch.refl No wr).alloc _) (fun _ _ _ f => f)) rfl (some ⟨wr.heap.size, 0, none⟩) 4 4 (nums .u8 (Rt.four x)) rfl rfl ?hrd (nums_one _ _) (by rw [Hlen.out]; unfold maxLen; omega) (by rw [Hlen.out]; omega) (by simp; omega) ?_)
      case hrd =>
        rw [← four_cells hx32]
        exact rd_new wr _ _ _
      intro v' w3 own3 t3
      have O3 := Lib.hid own3
      have T3 := Lib.hid t3
      clear own3 t3
      go_wp2
      go_roundg g
      case measure => omega
      case rel =>
        refine ⟨k + 1, _, by omega, by go_num, rfl, ?_, ?_⟩
        · show Own _ _ _ _ _
          rw [hnext.out, nums_append]
          exact O3.out
        · exact (T.out.alloc _).then T3.out (fun i hi e => by
            have := (O.out.block e).1
            omega)

/-- PutFour: a number behind bytes -/
theorem putFour_any (w : World) (a : Option Addr) (n c : Nat) (b : List Nat) (hb : b.length = n) (hr : Rd w a (nums .u8 b)) (x : Nat) (hx : x < 4294967296) (hsz : (n : Int) ≤ 99999999999996) (N : Nat) (hN : n + 4 = N) :
    Calls Try.prog 63 #[.slice a n c, .int .u32 (x : Nat)] w (PutPost w (b ++ Rt.four x) N) := by
  have h1 : ∀ y ∈ [x], y < 4294967296 := by
    intro y hy
    have e : y = x := by simpa using hy
    rw [e]; exact hx
  have hc := put_any (w.alloc (.cells #[.int .u32 (x : Nat)] 31)) a n c b hb (hr.no ((Touch.refl No w).alloc _)) (some ⟨w.heap.size, 0, none⟩) 1 1 [x] rfl (rd_new w 31 #[.int .u32 (x : Nat)] _) h1 (by omega) N (by omega)
  rw [show [x].flatMap Rt.four = Rt.four x by simp] at hc
  have Hc := Lib.hid hc
  clear hc hb hr
  go_enter Try.func63, Try.ntmps63
  go_wp2_with fail
  refine Hc.out.mono ?_
  rintro e w2 ⟨a', c', rfl, ho, t⟩
  have Ho := Lib.hid (ho.mono (base' := w.heap.size) (by simp))
  have Ht := Lib.hid t
  clear ho t
  go_wp2
  go_ret
  exact ⟨a', c', rfl, Ho.out, ((Touch.refl No w).alloc _).trans Ht.out⟩

/-! ### four, GetFour -/
theorem or_shift {a b k : Nat} (h : a < 2 ^ k) : a ||| b * 2 ^ k = a + b * 2 ^ k := by
  rw [Nat.or_comm, Nat.add_comm, Nat.mul_comm]
  exact (Nat.two_pow_add_eq_or_of_lt h b).symm
set_option maxHeartbeats 2000000 in
theorem four_any (w : World) (a : Option Addr) (n c : Nat) (b : List Nat) (hb : b.length = n) (hn : 4 ≤ n) (hr : Rd w a (nums .u8 b)) (hlt : ∀ x ∈ b, x < 256) :
    Calls Try.prog 103 #[.slice a n c] w fun e w' => e = .returned (.int .u32 (Rt.unfour b : Nat)) ∧ Touch No w w' := by
  have hb256 : ∀ i, b.getD i 0 < 256 := fun i => by
    rw [List.getD_eq_getElem?_getD]
    cases hq : b[i]? with
    | none => simp
    | some z => exact hlt z (List.mem_of_getElem? hq)
  obtain ⟨g, o, rfl, c0⟩ := hr.num (i := 0) (by omega)
  obtain ⟨g1, o1, e1, c1⟩ := hr.num (i := 1) (by omega)
  obtain ⟨g2, o2, e2, c2⟩ := hr.num (i := 2) (by omega)
  obtain ⟨g3, o3, e3, c3⟩ := hr.num (i := 3) (by omega)
  cases e1; cases e2; cases e3
  have h0 := hb256 0
  have h1 := hb256 1
  have h2 := hb256 2
  have h3 := hb256 3
  have hval : Hid (b.getD 0 0 + 256 * b.getD 1 0 + 65536 * b.getD 2 0 + 16777216 * b.getD 3 0 = Rt.unfour b) := rfl
  clear hb256 hlt
  generalize b.getD 0 0 = x0 at *
  generalize b.getD 1 0 = x1 at *
  generalize b.getD 2 0 = x2 at *
  generalize b.getD 3 0 = x3 at *
  rw [Nat.add_zero] at c0
  have hn4 : (4 : Int) ≤ (n : Nat) := by omega
  have Hr := Lib.hid hr
  clear hr hb
  go_enter Try.func103, Try.ntmps103
  go_wp2_with fail
  go_quiet (fail)
  go_wp2
  have e1 : (x1 : Int) * 256 = ((x1 * 256 : Nat) : Int) := by omega
  have e2 : (x2 : Int) * 65536 = ((x2 * 65536 : Nat) : Int) := by omega
  have e3 : (x3 : Int) * 16777216 = ((x3 * 16777216 : Nat) : Int) := by omega
  have o1 : x0 ||| x1 * 256 = x0 + x1 * 256 := or_shift (k := 8) (by omega)
  have o2 : (x0 + x1 * 256) ||| x2 * 65536 = x0 + x1 * 256 + x2 * 65536 := or_shift (k := 16) (by omega)
  have o3 : (x0 + x1 * 256 + x2 * 65536) ||| x3 * 16777216 = x0 + x1 * 256 + x2 * 65536 + x3 * 16777216 := or_shift (k := 24) (by omega)
  have s1 : bits BinOp.or .u32 (x0 : Int) ((x1 : Int) * 256) = ((x0 + x1 * 256 : Nat) : Int) := by
    rw [e1, u32_or_nat x0 (x1 * 256) (by omega) (by omega), o1]
  have s2 : bits BinOp.or .u32 ((x0 + x1 * 256 : Nat) : Int) ((x2 : Int) * 65536) = ((x0 + x1 * 256 + x2 * 65536 : Nat) : Int) := by
    rw [e2, u32_or_nat (x0 + x1 * 256) (x2 * 65536) (by omega) (by omega), o2]
  have s3 : bits BinOp.or .u32 ((x0 + x1 * 256 + x2 * 65536 : Nat) : Int) ((x3 : Int) * 16777216) = ((x0 + x1 * 256 + x2 * 65536 + x3 * 16777216 : Nat) : Int) := by
    rw [e3, u32_or_nat (x0 + x1 * 256 + x2 * 65536) (x3 * 16777216) (by omega) (by omega), o3]
  rw [s1, s2, s3]
  go_ret
  exact ⟨by
    show Ending.returned (.int .u32 _) = _
    rw [← hval.out]; congr 2; omega, (Touch.refl No w).drewN _⟩
def GetPost (w : World) (b : List Nat) (e : Ending) (w' : World) : Prop := e = .returned (.tuple #[.int .u32 (if b.length < 4 then 0 else Rt.unfour b : Nat), .int .i64 (if b.length < 4 then 5 else 0 : Nat)]) ∧ Touch No w w'
theorem getFour_any (w : World) (a : Option Addr) (n c : Nat) (b : List Nat) (hb : b.length = n) (hmax : (n : Int) ≤ 9223372036854775807) (hr : Rd w a (nums .u8 b)) (hlt : ∀ x ∈ b, x < 256) :
    Calls Try.prog 86 #[.slice a n c] w (GetPost w b) := by
  by_cases hn : n < 4
  · have hn' : (n : Int) < 4 := by omega
    have Fin : Hid (∀ wx, Touch No w wx → GetPost w b (.returned (.tuple #[.int .u32 0, .int .i64 5])) wx) := fun wx t => by
      refine ⟨?_, t⟩
      rw [if_pos (by omega), if_pos (by omega)]; rfl
    clear hn hb hr hlt
    go_enter Try.func86, Try.ntmps86
    go_wp2
    go_ret2
    exact Fin.out _ (Touch.refl _ _)
  · have hn' : ¬ (n : Int) < 4 := by omega
    have hc := four_any w a n c b hb (by omega) hr hlt
    have Hc := Lib.hid hc
    have Fin : Hid (∀ wx, Touch No w wx → GetPost w b (.returned (.tuple #[.int .u32 (Rt.unfour b : Nat), .int .i64 0])) wx) := fun wx t => by
      refine ⟨?_, t⟩
      rw [if_neg (by omega), if_neg (by omega)]; rfl
    clear hn hb hr hlt hc
    go_enter Try.func86, Try.ntmps86
    go_wp2_with fail
    refine Hc.out.mono ?_
    rintro e w2 ⟨rfl, t2⟩
    have T2 := Lib.hid t2
    clear t2
    go_wp2
    go_ret2
    exact Fin.out _ T2.out
end Go.Proofs.Ytkiehoboeiengaa
