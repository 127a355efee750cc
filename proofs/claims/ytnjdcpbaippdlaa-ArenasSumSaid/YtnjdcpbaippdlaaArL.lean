/-
  Package drydocklaw24 by its own text: lives.
-/
import Derived.Test.YtnjdcpbaippdlaaArS
namespace Go.Proofs.Ytnjdcpbaippdlaa
open Go Go.RowKit
set_option linter.unusedSimpArgs false
set_option linter.unusedVariables false

/-- the law says true, and of what was there nothing has turned -/
def LawPost (w : World) (e : Ending) (w' : World) : Prop := e = .returned (.bool true) ∧ Touch No w w'
section
variable {w0 w w' : World} {g : Nat} {A : Ar.Arena} {E : List Part}
theorem Ars.takeK (h : Ars w0 w g A E) (x : Int) (id : Nat) (hx : x = id) (hid : id < 4294967296) (z : Int) (hz : -9223372036854775808 ≤ z ∧ z ≤ 9223372036854775807) (hp : A.puts < 1000000000) (er : Int) (her : er = (Ar.takeE A id z : Nat)) (A' : Ar.Arena) (hA : Ar.takeA A id z = A') :
    Calls Try.prog 7 #[.pointer (some ⟨g, 0, none⟩), .int .u32 x, .int .i64 z] w fun e w' => e = .returned (.int .i64 er) ∧ Ars w0 w' g A' E := by
  subst hx her hA; exact h.take id hid z hz hp
theorem Ars.giveK (h : Ars w0 w g A E) (x : Int) (id : Nat) (hx : x = id) (hid : id < 4294967296) (er : Int) (her : er = (Ar.giveE A id : Nat)) (A' : Ar.Arena) (hA : Ar.giveA A id = A') :
    Calls Try.prog 8 #[.pointer (some ⟨g, 0, none⟩), .int .u32 x] w fun e w' => e = .returned (.int .i64 er) ∧ Ars w0 w' g A' E := by
  subst hx her hA; exact h.give id hid
theorem Ars.getK (h : Ars w0 w g A E) (x : Int) (id : Nat) (hx : x = id) (hid : id < 4294967296) (er : Int) (her : er = (Ar.getE A id : Nat)) (s l : List Int) (hs : Ar.getS A id = s) (hl : Ar.getL A id = l) (n m : Nat) (hn : s.length = n) (hm : l.length = m) :
    Calls Try.prog 12 #[.pointer (some ⟨g, 0, none⟩), .int .u32 x] w fun e w' => ∃ sa la, e = .returned (.tuple #[.agg #[.slice sa n n, .slice la m m], .int .i64 er]) ∧ Ars w0 w' g A (Part.rd2 sa (ints .i64 s) la (ints .i32 l) :: E) := by
  subst hx her hs hl hn hm; exact h.get id hid
theorem Ars.putK (h : Ars w0 w g A E) (x : Int) (id : Nat) (hx : x = id) (hid : id < 4294967296) (sa la : Option Addr) (n c m d : Nat) (s l : List Int) (vs us : List Value) (hvs : vs = ints .i64 s) (hus : us = ints .i32 l) (hs : s.length = n) (hn : (n : Int) ≤ 1000000000000) (hr : Apt w0 w E sa vs) (hl : l.length = m) (hm : (m : Int) ≤ 1000000000000) (hr2 : Apt w0 w E la us) (hp : A.puts < 1000000000) (er : Int) (her : er = (Ar.putE A id s l : Nat)) (A' : Ar.Arena) (hA : Ar.putA A id s l = A') :
    Calls Try.prog 13 #[.pointer (some ⟨g, 0, none⟩), .int .u32 x, .agg #[.slice sa n c, .slice la m d]] w fun e w' => e = .returned (.int .i64 er) ∧ Ars w0 w' g A' E := by
  subst hx her hA hvs hus; exact h.put id hid sa la n c m d s l hs hn hr hl hm hr2 hp
theorem Ars.usedK (h : Ars w0 w g A E) (z : Int) (hz : z = (A.used : Nat)) : Calls Try.prog 9 #[.pointer (some ⟨g, 0, none⟩)] w fun e w' => e = .returned (.int .i64 z) ∧ Ars w0 w' g A E := by
  subst hz; exact h.used
theorem Ars.peakK (h : Ars w0 w g A E) (z : Int) (hz : z = (A.peak : Nat)) : Calls Try.prog 10 #[.pointer (some ⟨g, 0, none⟩)] w fun e w' => e = .returned (.int .i64 z) ∧ w = w' := by
  subst hz; exact h.peak
theorem Ars.pushRow (h : Ars w0 w g A E) (x : Nat) (hx : x = w.heap.size) (T : TypeId) (c : Array Value) (vs : List Value) (hvs : c.toList = vs) : Ars w0 (w.alloc (.cells c T)) g A (Part.row x T vs :: E) := by
  subst hx hvs; exact h.push (Born.row w T c)
theorem Ars.sub {E' : List Part} (h : Ars w0 w g A (E' ++ E)) : Ars w0 w g A E := by
  induction E' with
  | nil => exact h
  | cons p r ih => exact ih (Ars.drop h)
end
theorem ars_newK (w0 w : World) (t0 : Touch No w0 w) (n : Nat) (x : Int) (hx : x = n) (hn : n ≤ 1048576) : Calls Try.prog 6 #[.int .i64 x] w fun e w' => ∃ g, e = .returned (.tuple #[.pointer (some ⟨g, 0, none⟩), .int .i64 0]) ∧ Ars w0 w' g (Ar.new n) [] := by
  subst hx; exact Ars.new w0 w t0 n hn

def z11 : Array Value := (List.replicate 11 (Value.int .i32 0)).toArray
theorem made11 (wx : World) : (Instr.makeSlice 33 (.int .i64 11) (.int .i64 11)).run Try.prog wx = .ok (.slice (some ⟨wx.heap.size, 0, none⟩) 11 11) (wx.alloc (.cells z11 21)) := by
  obtain ⟨I, hi0, hi1, hi2, hi3⟩ := i32_info
  have := run_make (P := Try.prog) wx 33 21 I (.int .i32 0) Try.underlying33 hi0 hi1 .i64 .i64 (11 : Int) (11 : Int) (by omega) (by omega) (by rw [hi3]; omega) (by omega)
  rw [this, hi2]
  show Result.ok _ (wx.alloc (.cells (madeCells #[Value.int .i32 0] (11 * 1)) _)) = _
  rw [made_fill]; rfl

namespace Ar
def L1 : Arena := ⟨100, 60, 60, 1, [(1, ⟨60, none⟩)]⟩
def L2 : Arena := ⟨100, 100, 100, 2, [(1, ⟨60, none⟩), (2, ⟨40, none⟩)]⟩
def L3 : Arena := ⟨100, 40, 100, 2, [(2, ⟨40, none⟩)]⟩
def L4 : Arena := ⟨100, 40, 100, 3, [(2, ⟨40, some ([1], [-3])⟩)]⟩
end Ar

set_option maxRecDepth 100000 in
set_option maxHeartbeats 8000000 in
theorem lives_is (w : World) : Calls Try.prog 5 #[] w (LawPost w) := by
  have hm11 := made11
  go_enter Try.func5, Try.ntmps5
  go_wp2_with fail
  refine (ars_newK w w (Touch.refl No w) 100 100 rfl (by decide)).mono ?_
  rintro e w1 ⟨g, rfl, h1⟩
  have H1 := Lib.hid h1
  clear h1
  go_wp2_with fail
  refine (H1.out.takeK 1 1 rfl (by decide) 60 (by decide) (by decide) 0 rfl Ar.L1 rfl).mono ?_
  rintro e w2 ⟨rfl, h2⟩
  have H2 := Lib.hid h2
  clear h2 H1
  go_wp2_with fail
  refine (H2.out.takeK 2 2 rfl (by decide) 50 (by decide) (by decide) 13 rfl Ar.L1 rfl).mono ?_
  rintro e w3 ⟨rfl, h3⟩
  have H3 := Lib.hid h3
  clear h3 H2
  go_wp2_with fail
  refine (H3.out.takeK 2 2 rfl (by decide) 40 (by decide) (by decide) 0 rfl Ar.L2 rfl).mono ?_
  rintro e w4 ⟨rfl, h4⟩
  have H4 := Lib.hid h4
  clear h4 H3
  go_wp2_with fail
  refine (H4.out.giveK 1 1 rfl (by decide) 0 rfl Ar.L3 rfl).mono ?_
  rintro e w5 ⟨rfl, h5⟩
  have H5 := Lib.hid h5
  clear h5 H4
  go_wp2_with fail
  refine (H5.out.getK 2 2 rfl (by decide) 9 rfl [] [] rfl rfl 0 0 rfl rfl).mono ?_
  rintro e w6 ⟨sa, la, rfl, h6⟩
  have H6 := Lib.hid h6.drop
  clear h6 H5
  go_wp2_with fail
  have P1 := (H6.out.pushRow _ rfl 35 #[.slice sa 0 0, .slice la 0 0] _ rfl).drop
  have P3 := (P1.pushRow (w6.heap.size + 1) (by simp) 3 #[.int .i64 11] (ints .i64 [11]) rfl).pushRow (w6.heap.size + 1 + 1) (by simp) 21 z11 (ints .i32 (List.replicate 11 0)) rfl
  refine (P3.putK 2 2 rfl (by decide) _ _ _ _ _ _ [11] (List.replicate 11 0) _ _ rfl rfl rfl (by decide) (apt_row (List.mem_cons_of_mem _ List.mem_cons_self) P3) rfl (by decide) (apt_row List.mem_cons_self P3) (by decide) 13 rfl Ar.L3 rfl).mono ?_
  rintro e w7 ⟨rfl, h7⟩
  have H7 := Lib.hid h7.drop.drop
  clear h7 P1 P3 H6
  go_wp2_with fail
  have P3 := (H7.out.pushRow (w7.heap.size) (by simp) 3 #[.int .i64 1] (ints .i64 [1]) rfl).pushRow (w7.heap.size + 1) (by simp) 21 #[.int .i32 (-3)] (ints .i32 [-3]) rfl
  refine (P3.putK 2 2 rfl (by decide) _ _ _ _ _ _ [1] [-3] _ _ rfl rfl rfl (by decide) (apt_row (List.mem_cons_of_mem _ List.mem_cons_self) P3) rfl (by decide) (apt_row List.mem_cons_self P3) (by decide) 0 rfl Ar.L4 rfl).mono ?_
  rintro e w8 ⟨rfl, h8⟩
  have H8 := Lib.hid h8.drop.drop
  clear h8 P3 H7
  go_wp2_with fail
  refine (H8.out.getK 2 2 rfl (by decide) 0 rfl [1] [-3] rfl rfl 1 1 rfl rfl).mono ?_
  rintro e w9 ⟨sb, lb, rfl, h9⟩
  obtain ⟨gl, ol, rfl, hl⟩ := (h9.rd2 List.mem_cons_self).2.int (i := 0) (by decide)
  have H9 := Lib.hid h9
  clear h9 hl H8
  go_wp2_with fail
  obtain ⟨wx, hwx⟩ : ∃ wx, wx = w9.alloc (.cells #[.slice sb 1 1, .slice (some ⟨gl, ol, none⟩) 1 1] 35) := ⟨_, rfl⟩
  obtain ⟨bx, hbx⟩ : ∃ bx, bx = w9.heap.size := ⟨_, rfl⟩
  have P4 : Hid (Ars w wx g Ar.L4 (Part.row bx 35 [.slice sb 1 1, .slice (some ⟨gl, ol, none⟩) 1 1] :: Part.rd2 sb (ints .i64 [1]) (some ⟨gl, ol, none⟩) (ints .i32 [-3]) :: [])) := by
    show Ars _ _ _ _ _
    rw [hwx, hbx]
    exact H9.out.pushRow _ rfl _ _ _ rfl
  rw [← hwx, ← hbx]
  clear hwx hbx H9
  refine (arNew_bad wx (-1) (by decide)).mono ?_
  rintro e w10 ⟨rfl, rfl⟩
  go_wp2_with fail
  refine (P4.out.usedK 40 rfl).mono ?_
  rintro e w11 ⟨rfl, h11⟩
  have H11 := Lib.hid h11
  clear h11 P4
  go_wp2_with fail
  refine (H11.out.peakK 100 rfl).mono ?_
  rintro e w12 ⟨rfl, rfl⟩
  have hrow := H11.out.row List.mem_cons_self
  have b0 : w11.cell? ⟨bx, 0, none⟩ = some (.slice sb 1 1) := hrow.cell 0
  have b1 : w11.cell? ⟨bx, 1, none⟩ = some (.slice (some ⟨gl, ol, none⟩) 1 1) := hrow.cell 1
  have c0 : w11.cell? ⟨gl, ol, none⟩ = some (.int .i32 (-3)) := by
    obtain ⟨gl', ol', e, h⟩ := (H11.out.rd2 (List.mem_cons_of_mem _ List.mem_cons_self)).2.int (i := 0) (by decide)
    cases e
    exact h
  clear hrow
  go_wp2_with fail
  refine (takeNil_any w11 1 1).mono ?_
  rintro e w13 ⟨rfl, rfl⟩
  clear b0 b1 c0
  go_wp2
  go_ret
  exact ⟨rfl, H11.out.end⟩
end Go.Proofs.Ytnjdcpbaippdlaa
