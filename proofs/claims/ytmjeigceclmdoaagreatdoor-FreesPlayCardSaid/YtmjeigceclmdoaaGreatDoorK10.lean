/-
  The statements' own helpers for a map of pages: great, behind, free, SameIds.
  What comes in, opened: a list of acts as it is read.
-/
import Derived.Test.YtmjeigceclmdoaaGreatDoorK09
import Derived.Test.YtmjeigceclmdoaaGreatDoorK03
import Derived.Stop.LaidErr
namespace Go.Proofs.YtmjeigceclmdoaaGreatDoor
open Go.RowKit

/-- an act as it lies in memory -/
structure Deed where
  kind : Nat
  n : Int
  num : Nat
  a : Option Addr
  cap : Nat
  xs : List Nat

structure DeedAt (w : World) (c o : Nat) (x : Deed) : Prop where
  kind : w.cell? ⟨c, o, none⟩ = some (.int .u8 (x.kind : Nat))
  n : w.cell? ⟨c, o + 1, none⟩ = some (.int .i64 x.n)
  num : w.cell? ⟨c, o + 2, none⟩ = some (.int .u32 (x.num : Nat))
  l : w.cell? ⟨c, o + 3, none⟩ = some (.slice x.a x.xs.length x.cap)
  rd : Rd w x.a (nums .u32 x.xs)
  k8 : x.kind < 256
  n32 : x.num < 4294967296
  le : x.xs.length ≤ x.cap
  max : (x.cap : Int) ≤ 35184372087808
  x32 : ∀ y ∈ x.xs, y < 4294967296

theorem DeedAt.touch {w w' : World} {c o : Nat} {x : Deed} (h : DeedAt w c o x) (t : Touch No w w') : DeedAt w' c o x :=
  ⟨t.cell (fun f => f) h.kind, t.cell (fun f => f) h.n, t.cell (fun f => f) h.num, t.cell (fun f => f) h.l, h.rd.no t, h.k8, h.n32, h.le, h.max, h.x32⟩

/-- the slice at ad reads as these acts -/
def IsDeeds (w : World) (ad : Option Addr) (acts : List Deed) : Prop := ∀ i x, acts[i]? = some x → ∃ c o, ad = some ⟨c, o, none⟩ ∧ DeedAt w c (o + i * 4) x
theorem IsDeeds.touch {w w' : World} {ad : Option Addr} {acts : List Deed} (h : IsDeeds w ad acts) (t : Touch No w w') : IsDeeds w' ad acts := fun i x hx =>
  let ⟨c, o, e, ha⟩ := h i x hx; ⟨c, o, e, ha.touch t⟩

/-- great: more than is gone through -/
def greatFrom (m : Nat) : List Deed → Bool
  | [] => false
  | x :: l => decide (5000 < m + 1 + x.xs.length) || greatFrom (m + 1 + x.xs.length) l
def great (l : List Deed) : Bool := greatFrom 0 l || decide (200 < l.length)

set_option maxRecDepth 100000 in
set_option maxHeartbeats 1000000 in
theorem great_any (w : World) (ad : Option Addr) (n cap : Nat) (acts : List Deed) (hn : acts.length = n) (hmax : (n : Int) ≤ 9223372036854775807) (h : IsDeeds w ad acts) :
    Calls Tryz.prog 29 #[.slice ad n cap] w fun e w' => e = .returned (.bool (great acts)) ∧ w = w' := by
  have H := Lib.hid h; clear h
  have HN := Lib.hid hn; clear hn
  go_enter Tryz.func29, Tryz.ntmps29
  go_wp2
  go_loopg [3, 4] n (fun g s3 s4 wr => ∃ k m, k + g = n ∧ s4 = .int .i64 ((k : Nat) : Int) ∧ s3 = .int .i64 ((m : Nat) : Int) ∧ m ≤ 5000 ∧ Hid (greatFrom 0 acts = greatFrom m (acts.drop k)) ∧ Hid (wr = w))
  case atStart => exact ⟨0, 0, by omega, rfl, rfl, by omega, rfl, rfl⟩
  case round =>
    obtain ⟨k, m, hkg, rfl, rfl, hm, hf, hwr⟩ := hrel
    have hww : w = wr := hwr.out.symm
    clear hwr
    subst hww
    cases gk with
    | zero =>
      obtain rfl : k = n := by omega
      have Hres : Hid (great acts = decide (200 < k)) := by
        have e : acts.drop k = [] := List.drop_eq_nil_of_le (by have := HN.out; omega)
        show great acts = _
        rw [great, hf.out, e, HN.out]; simp [greatFrom]
      go_wp2
      go_ret
      exact ⟨ret_bool (by rw [Hres.out, Bool.eq_iff_iff]; simp; omega), rfl⟩
    | succ g =>
      have hlt : (k : Int) < n := by omega
      obtain ⟨x, hx⟩ : ∃ x, acts[k]? = some x := ⟨_, List.getElem?_eq_getElem (by have := HN.out; omega)⟩
      obtain ⟨c, o, rfl, ha⟩ := H.out k x hx
      have hl := ha.l
      have hle := ha.le
      have hmx := ha.max
      clear ha
      have HF : Hid (greatFrom 0 acts = (decide (5000 < m + 1 + x.xs.length) || greatFrom (m + 1 + x.xs.length) (acts.drop (k + 1)))) := by
        have hd : acts.drop k = x :: acts.drop (k + 1) := by
          have hlen : k < acts.length := by have := HN.out; omega
          rw [List.drop_eq_getElem_cons hlen]
          rw [List.getElem?_eq_getElem hlen] at hx
          rw [Option.some.inj hx]
        show greatFrom 0 acts = _
        rw [hf.out, hd]; rfl
      clear hx hf
      generalize x.xs.length = q at *
      generalize x.a = qa at *
      generalize x.cap = qc at *
      by_cases hbig : 5000 < m + 1 + q
      · have hbig' : (5000 : Int) < (m : Int) + 1 + (q : Int) := by omega
        have Hres : Hid (great acts = true) := by
          show great acts = true
          rw [great, HF.out]; simp [hbig]
        clear hbig
        go_wp2
        go_ret
        exact ⟨ret_bool Hres.out.symm, rfl⟩
      · have hbig' : ¬ (5000 : Int) < (m : Int) + 1 + (q : Int) := by omega
        have HF2 : Hid (greatFrom 0 acts = greatFrom (m + 1 + q) (acts.drop (k + 1))) := by
          show greatFrom 0 acts = _
          rw [HF.out, decide_eq_false hbig, Bool.false_or]
        have hbound : m + 1 + q ≤ 5000 := by omega
        clear hbig
        go_wp2
        go_roundg g
        case measure => omega
        case rel => exact ⟨k + 1, m + 1 + q, by omega, by go_num, by go_num, hbound, HF2.out, rfl⟩

/-! ### what acts do to a map of a hundred pages from 7 on -/
def actSet (S : Nat → Bool) (x : Deed) : Nat → Bool :=
  if x.kind % 8 ≤ 2 then takeSet S x.n
  else if x.kind % 8 ≤ 4 then markSet S x.num
  else if x.kind % 8 ≤ 6 then giveSet 7 107 S x.xs
  else S
def behindSet (S : Nat → Bool) : List Deed → Nat → Bool
  | [] => S
  | x :: l => behindSet (actSet S x) l
def BehindPost (w : World) (S : Nat → Bool) (e : Ending) (w' : World) : Prop :=
  ∃ b, e = .returned (.pointer (some ⟨b, 0, none⟩)) ∧ w.heap.size ≤ b ∧ Touch No w w' ∧ MapAt w' b 7 107 S

theorem behind_step {w wr w2 : World} {b : Nat} {o : Obj} (T : Touch No w wr) (hb : w.heap.size ≤ b) (t : Touch (One b) (wr.alloc o) w2) : Touch No w w2 :=
  (T.alloc o).then t (fun i hi e => by simp only [One] at e; omega)

end Go.Proofs.YtmjeigceclmdoaaGreatDoor
namespace Go.Proofs.YtmjeigceclmdoaaGreatDoor
open Go.ChangeShapes Go.WideShapes Go.ChangeAt Go.RowKit

section
variable {H : Type} {enc : TypeId × Value → H} {w : World}

theorem cells_act : Tryz.prog.cellsOf 69 = 4 := by kernel_rfl
theorem cells_int : Tryz.prog.cellsOf 3 = 1 := by kernel_rfl
theorem cells_ids : Tryz.prog.cellsOf 67 = 1 := by kernel_rfl
theorem bytes_u32 : Tryz.prog.bytesOf 23 = 4 := by kernel_rfl

set_option maxRecDepth 100000 in
/-- one act -/
theorem open_deed {fuel : Nat} {cs : List Value} {x : DataW H × List MemPlace} {c o : Nat} (hc : ∀ j, j < 4 → w.cell? ⟨c, o + j, none⟩ = cs[j]?)
    (h : DataW.trod enc Tryz.prog w 0 (fun _ => true) true fuel 69 cs = some x) (hz : ∀ n ∈ DataW.weights Tryz.prog 69 x.1, n ≤ reachBytes) :
    ∃ d : Deed, DeedAt w c o d := by
  obtain ⟨xs, n, rfl, rfl, hlen, hxs, hf⟩ := DataW.trod_struct Tryz.underlying69 h
  rw [cells_act] at hlen
  have f0 : DataW.trod enc Tryz.prog w 0 (fun _ => true) true n 5 (List.take (Tryz.prog.cellsOf 5) (List.drop 0 cs)) = xs[0]? := hf 0 _ rfl
  have f1 : DataW.trod enc Tryz.prog w 0 (fun _ => true) true n 3 (List.take (Tryz.prog.cellsOf 3) (List.drop 1 cs)) = xs[1]? := hf 1 _ rfl
  have f2 : DataW.trod enc Tryz.prog w 0 (fun _ => true) true n 23 (List.take (Tryz.prog.cellsOf 23) (List.drop 2 cs)) = xs[2]? := hf 2 _ rfl
  have f3 : DataW.trod enc Tryz.prog w 0 (fun _ => true) true n 67 (List.take (Tryz.prog.cellsOf 67) (List.drop 3 cs)) = xs[3]? := hf 3 _ rfl
  rw [cells_u8] at f0
  rw [cells_int] at f1
  rw [cells_u32] at f2
  rw [cells_ids] at f3
  match xs, hxs with
  | [x0, x1, x2, x3], _ =>
  match cs, hlen with
  | [c0, c1, c2, c3], _ =>
    obtain ⟨k, e0, _, w0⟩ := DataW.trod_int Tryz.underlying5 (show DataW.trod enc Tryz.prog w 0 (fun _ => true) true n 5 [c0] = some x0 from f0)
    obtain ⟨m, e1, _, w1⟩ := DataW.trod_int Tryz.underlying3 (show DataW.trod enc Tryz.prog w 0 (fun _ => true) true n 3 [c1] = some x1 from f1)
    obtain ⟨q, e2, _, w2⟩ := DataW.trod_int Tryz.underlying23 (show DataW.trod enc Tryz.prog w 0 (fun _ => true) true n 23 [c2] = some x2 from f2)
    obtain ⟨a, cap, zs, e3, hl, hm, hr, hwf, hwt, _⟩ := open_list Tryz.underlying67 Tryz.underlying23 cells_u32 (show DataW.trod enc Tryz.prog w 0 (fun _ => true) true n 67 [c3] = some x3 from f3)
    simp only [List.cons.injEq, and_true] at e0 e1 e2 e3
    subst e0 e1 e2 e3
    have b0 := bounds_u8 w0
    have b2 := bounds_u32 w2
    have hpos : ∀ z ∈ zs, 0 ≤ z := fun z hz' => (bounds_u32 (hwf z hz')).1
    have hcap : (cap : Int) ≤ 35184372087808 := by
      rcases hwt with h0 | h0
      · omega
      · have : cap * Tryz.prog.bytesOf 23 ≤ reachBytes := hz _ (by
          simp only [DataW.weights, Tryz.underlying69, DataW.weightsEach, List.map_cons, List.map_nil, List.mem_append]
          exact Or.inr (Or.inr (Or.inr (Or.inl h0))))
        rw [bytes_u32] at this
        unfold reachBytes at this
        omega
    refine ⟨⟨k.toNat, m, q.toNat, a, cap, zs.map Int.toNat⟩, ?_⟩
    have h0 := hc 0 (by decide)
    have h1 := hc 1 (by decide)
    have h2 := hc 2 (by decide)
    have h3 := hc 3 (by decide)
    refine ⟨?_, h1, ?_, ?_, ?_, ?_, ?_, ?_, hcap, ?_⟩
    · show w.cell? ⟨c, o, none⟩ = some (.int .u8 ((k.toNat : Nat) : Int))
      rw [show ((k.toNat : Nat) : Int) = k from by omega]; exact h0
    · show w.cell? ⟨c, o + 2, none⟩ = some (.int .u32 ((q.toNat : Nat) : Int))
      rw [show ((q.toNat : Nat) : Int) = q from by omega]; exact h2
    · show w.cell? ⟨c, o + 3, none⟩ = some (.slice a (zs.map Int.toNat).length cap)
      rw [List.length_map]; exact h3
    · show Rd w a (nums .u32 (zs.map Int.toNat))
      rw [← ints_nums hpos]; exact hr
    · show k.toNat < 256
      omega
    · show q.toNat < 4294967296
      omega
    · show (zs.map Int.toNat).length ≤ cap
      rw [List.length_map]; exact hl
    · intro y hy
      obtain ⟨z, hz', rfl⟩ := List.mem_map.1 hy
      have := bounds_u32 (hwf z hz')
      omega

set_option maxRecDepth 100000 in
/-- a slice of acts that came in -/
theorem open_deeds {fuel : Nat} {cs : List Value} {x : DataW H × List MemPlace}
    (h : DataW.trod enc Tryz.prog w 0 (fun _ => true) true fuel 59 cs = some x) (hz : ∀ n ∈ DataW.weights Tryz.prog 59 x.1, n ≤ reachBytes) :
    ∃ ad n cap acts, cs = [.slice ad n cap] ∧ acts.length = n ∧ (n : Int) ≤ 9223372036854775807 ∧ IsDeeds w ad acts := by
  rcases DataW.trod_slice Tryz.underlying59 h with ⟨rfl, rfl⟩ | ⟨a, len, cap, elems, rest, n, rfl, rfl, rfl, hb, hl, hm, hlen, hel, _, _⟩
  · exact ⟨none, 0, 0, [], rfl, rfl, by decide, fun i x hx => by simp at hx⟩
  · rw [cells_act] at hel
    have each : ∀ i, i < len → ∃ d : Deed, a = ⟨a.block, a.off, none⟩ ∧ DeedAt w a.block (a.off + i * 4) d := by
      intro i hi
      have h1 := hel i hi
      rw [List.getElem?_eq_getElem (by omega)] at h1
      obtain ⟨cs, hcs, htr⟩ := Option.bind_eq_some_iff.1 h1
      have hsp0 : a = ⟨a.block, a.off, none⟩ := by
        have h0 := hel 0 (by omega)
        rw [List.getElem?_eq_getElem (by omega)] at h0
        obtain ⟨cs0, hcs0, _⟩ := Option.bind_eq_some_iff.1 h0
        have := (cells_elem hcs0 (by decide)).2.1
        simpa [Addr.add] using this
      have hadd : a.add (i * 4) = ⟨a.block, a.off + i * 4, none⟩ := by rw [hsp0, add_plain]
      rw [hadd] at hcs
      obtain ⟨_, _, hcell⟩ := cells_elem hcs (by decide)
      obtain ⟨d, hd⟩ := open_deed hcell htr (fun m hm' => hz m (by
        have hw : ∀ (l : List (DataW H × List MemPlace)) (y : DataW H × List MemPlace), y ∈ l → m ∈ DataW.weights Tryz.prog 69 y.1 → m ∈ DataW.weightsAll Tryz.prog 69 (l.map (·.1)) := by
          intro l
          induction l with
          | nil => intro y hy; cases hy
          | cons z l ih =>
            intro y hy hm2
            simp only [List.map_cons, DataW.weightsAll, List.mem_append]
            rcases List.mem_cons.1 hy with rfl | hy
            · exact Or.inl hm2
            · exact Or.inr (ih y hy hm2)
        simp only [DataW.weights, Tryz.underlying59, List.mem_cons, List.mem_append]
        exact Or.inr (Or.inl (hw elems _ (List.getElem_mem _) hm'))))
      exact ⟨d, hsp0, hd⟩
    obtain ⟨acts, hacts, hq⟩ := list_choose len each
    refine ⟨some a, len, cap, acts, rfl, hacts, by unfold maxLen at hm; omega, fun i d hd => ?_⟩
    obtain ⟨e, hd'⟩ := hq i d hd
    exact ⟨a.block, a.off, by rw [← e], hd'⟩
end
theorem gTab64 : Tryz.prog.globalNamed "math/bits.deBruijn64tab" = some 0 := by kernel_rfl
theorem gTab64Type : (Tryz.prog.globals[0]?).map (·.type) = some 162 := by kernel_rfl
theorem cells_tab64 : Tryz.prog.cellsOf 162 = 64 := by kernel_rfl
set_option maxRecDepth 100000 in
/-- what the row's list gives -/
theorem tab_at {W : World} (h : laidMetH Tryz.prog [("math/bits.deBruijn32tab", Rows.laid_math_bits_deBruijn32tab), ("math/bits.deBruijn64tab", Rows.laid_math_bits_deBruijn64tab), ("internal/strconv.uint64pow10", Rows.laid_internal_strconv_uint64pow10)] W) : TabAt W := by
  have h1 : laidMet Tryz.prog [("math/bits.deBruijn32tab", Rows.laid_math_bits_deBruijn32tab), ("math/bits.deBruijn64tab", Rows.laid_math_bits_deBruijn64tab), ("internal/strconv.uint64pow10", Rows.laid_internal_strconv_uint64pow10)] W := h
  have ht : Lib.TabIs Tryz.prog W "math/bits.deBruijn64tab" .u8 (Lib.deBruijn64tab.map fun (n : Nat) => (n : Int)) :=
    Lib.tabIs_of_head gTab64 gTab64Type Tryz.underlying162 Tryz.underlying5 cells_u8 cells_tab64 h1.tail
  intro j hj
  have hlen : (Lib.deBruijn64tab.map fun (n : Nat) => (n : Int)).length = 64 := by decide
  have hl2 : Lib.deBruijn64tab.length = 64 := by decide
  have := ht.cell gTab64 j (by rw [hlen]; exact hj)
  rw [this]
  rw [List.getD_eq_getElem?_getD, List.getD_eq_getElem?_getD, List.getElem?_map, List.getElem?_eq_getElem (by rw [hl2]; exact hj)]
  rfl
end Go.Proofs.YtmjeigceclmdoaaGreatDoor
