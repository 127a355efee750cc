/-
  The end of every law of this seat: a call that answers true and turns nothing that was there meets the row. No condition.
  What the plain rows of this seat share.
  What comes in, opened: bytes, numbers, two bytes in an array.
  What comes in, opened: two numbers in an array, a page.
  What comes in, opened: bytes and three numbers; two lists of bytes, two numbers in an array, and where.
  What the rows of this seat share: the tables of package unicode/utf8 laid in their variables, a world for the witness.
-/
import Derived.Test.YtakjbdeemifnmaaDoorRows
import Derived.WalkKit
import Derived.ProofKit
import Derived.OpenShut
import Derived.Deep.DeepHandedRow
import Derived.Lib.LaidTab
import Derived.Test.YtakjbdeemifnmaaDoorOpen
import Derived.Test.YtakjbdeemifnmaaDoorIn
import Derived.Test.YtakjbdeemifnmaaDoorProg
import Derived.Laws.IdiomArrays
import Derived.Lib.SmallJoins
import Derived.Test.YtakjbdeemifnmaaDoorCards
import Derived.Test.YtakjbdeemifnmaaDoorTie
namespace Go.Proofs.YtakjbdeemifnmaaDoor
open Go.ChangeShapes Go.WideShapes Go.ChangeAt Go.RowKit

section
variable {H : Type} {enc : TypeId × Value → H} {P : Program}

theorem trodAll_below (hl : laidOutB P = true) {W W' : World} (hb : Below W.heap.size W W') : ∀ (ts : List TypeId) (vs : List Value) (ds : List (DataW H)) (ps : List MemPlace),
    (∀ t ∈ ts, P.readableRec t = true ∧ t < P.types.size) → DataW.TrodAll enc P W 0 (fun _ => true) true ts vs ds ps → (∀ x ∈ ps, x.block < W.heap.size) →
    DataW.TrodAll enc P W' 0 (fun b => decide (b < W.heap.size)) true ts vs ds ps
  | [], vs, ds, ps, _, h, _ => by
    obtain ⟨rfl, rfl, rfl⟩ := trodAll_nil h
    exact trodAll_mk0
  | t :: ts, vs, ds, ps, ht, h, hlt => by
    obtain ⟨v0, vs0, d0, ds0, p0, q0, rfl, rfl, rfl, h0, r0⟩ := trodAll_cons h
    exact trodAll_cons_mk (Below.trod hl (ht t (by simp)).1 (ht t (by simp)).2 h0 hb fun x hx => hlt x (by simp [hx]))
      (trodAll_below hl hb ts vs0 ds0 q0 (fun t h => ht t (by simp [h])) r0 fun x hx => hlt x (by simp [hx]))

/-- THE END OF A LAW: it says true, and of what was there nothing has turned. -/
theorem law_post {f : Func} {s : ChangeSpec} {tb : TypeId} (hl : laidOutB P = true) (hr : f.params.toList.all (fun t => P.readableRec t && decide (t < P.types.size)) = true) (hv : s.vars = [])
    (hres : f.resultTypes = #[tb]) (htb : P.underlying tb = some .bool) {W W' : World} {args : Array Value} {ds gs : List (DataW H)} {before : List MemPlace}
    (hW : DataW.Whole enc P f.params.toList s.vars false W args.toList ds gs before) (hfn : s.fn H ds = { results := [.lit (.bool true)], args := ds }) (hb : Below W.heap.size W W') :
    s.post enc P f false true false false W args (.bool true) W' := by
  have hlt := hW.lt
  have hW0 := hW
  obtain ⟨p, q, hA, hV, rfl, _, _⟩ := hW0
  rw [hv] at hV
  obtain ⟨rfl, rfl⟩ := trodVars_none hV
  have hA' : DataW.TrodAll enc P W' 0 (fun b => decide (b < W.heap.size)) true f.params.toList args.toList ds p :=
    trodAll_below hl hb _ _ _ _ (fun t ht => by simpa using List.all_eq_true.1 hr t ht) hA (fun x hx => by simpa using hlt x (by simpa using hx))
  refine ⟨ds, [], p ++ [], [], p, [], hW, ?_, ?_, ?_, hb.frame _, fun h => by cases h⟩
  · rw [List.append_nil, hfn, hres]
    exact trodAll_cons_mk (shut_bool htb _) trodAll_mk0
  · rw [List.append_nil, hfn]; exact hA'
  · rw [List.append_nil, hfn, hv]
    exact rfl
end
end Go.Proofs.YtakjbdeemifnmaaDoor
namespace Go.Proofs.YtakjbdeemifnmaaDoor
open Go.ChangeShapes Go.WideShapes Go.ChangeAt Go.RowKit
theorem own : ownKnob Tryd.prog.godebug = none := by kernel_rfl
theorem laidOut : laidOutB Tryd.prog = true := by kernel_rfl
theorem wf_u8 {n : Int} (h : (Lit.int .u8 n).wf = true) : ∃ m : Nat, n = (m : Nat) ∧ m < 256 := by
  have := bounds_u8 h
  exact ⟨n.toNat, by omega, by omega⟩
theorem wf_u64 {n : Int} (h : (Lit.int .u64 n).wf = true) : ∃ m : Nat, n = (m : Nat) ∧ m < 18446744073709551616 := by
  have := bounds_u64 h
  exact ⟨n.toNat, by omega, by omega⟩
end Go.Proofs.YtakjbdeemifnmaaDoor
namespace Go.Proofs.YtakjbdeemifnmaaDoor
open Go.ChangeShapes Go.WideShapes Go.ChangeAt Go.RowKit

section
variable {H : Type} {enc : TypeId × Value → H} {w : World}
theorem cells_u8 : Tryd.prog.cellsOf 5 = 1 := by kernel_rfl
theorem cells_i32 : Tryd.prog.cellsOf 21 = 1 := by kernel_rfl
theorem cells_bytes : Tryd.prog.cellsOf 22 = 1 := by kernel_rfl
theorem bytes_u8 : Tryd.prog.bytesOf 5 = 1 := by kernel_rfl
theorem bytes_i32 : Tryd.prog.bytesOf 21 = 4 := by kernel_rfl
theorem wf_u32 {n : Int} (h : (Lit.int .u32 n).wf = true) : ∃ m : Nat, n = (m : Nat) ∧ m < 4294967296 := by
  have := bounds_u32 h
  exact ⟨n.toNat, by omega, by omega⟩

theorem open_bytes {fuel : Nat} {cs : List Value} {x : DataW H × List MemPlace} (h : DataW.trod enc Tryd.prog w 0 (fun _ => true) true fuel 22 cs = some x) (hz : ∀ n ∈ DataW.weights Tryd.prog 22 x.1, n ≤ reachBytes) :
    ∃ a n cap b, cs = [.slice a n cap] ∧ Bytes w a n cap b := by
  obtain ⟨a, cap, zs, rfl, hl, hm, hr, hwf, hwt, _⟩ := open_list Tryd.underlying22 Tryd.underlying5 cells_u8 h
  have hpos : ∀ z ∈ zs, 0 ≤ z := fun z hz' => (bounds_u8 (hwf z hz')).1
  refine ⟨a, zs.length, cap, zs.map Int.toNat, rfl, by rw [List.length_map], hl, ?_, by rw [← ints_nums hpos]; exact hr, fun x hx => by obtain ⟨z, hz', rfl⟩ := List.mem_map.1 hx; have := bounds_u8 (hwf z hz'); omega⟩
  rcases hwt with h0 | h0
  · omega
  · have := hz _ h0
    rw [bytes_u8] at this
    unfold reachBytes at this
    omega
theorem list2 {α : Type} (l : List α) (h : l.length = 2) : ∃ a b, l = [a, b] := by
  match l, h with
  | [a, b], _ => exact ⟨a, b, rfl⟩
end
end Go.Proofs.YtakjbdeemifnmaaDoor
namespace Go.Proofs.YtakjbdeemifnmaaDoor
open Go.ChangeShapes Go.WideShapes Go.ChangeAt Go.RowKit

section
variable {H : Type} {enc : TypeId × Value → H} {w : World}
theorem cells_u32 : Tryd.prog.cellsOf 23 = 1 := by kernel_rfl
set_option maxRecDepth 100000 in
theorem open_pair32 {base : Nat} {v : Value} {d : DataW H} {p : List MemPlace} (hv : Value.okWide Tryd.prog w .any base 24 v) (h : DataW.Trod enc Tryd.prog w 0 (fun _ => true) true 24 v d p) :
    ∃ k0 k1 : Nat, v = .agg #[.int .u32 (k0 : Nat), .int .u32 (k1 : Nat)] ∧ k0 < 4294967296 ∧ k1 < 4294967296 := by
  obtain ⟨cs, rfl, hsz, _⟩ : ∃ cs, v = .agg cs ∧ cs.size = Tryd.prog.cellsOf 24 ∧ Row.okWide Tryd.prog w .any base 24 cs := by
    simpa [Value.okWide, Tryd.underlying24] using hv
  rw [show Tryd.prog.cellsOf 24 = 2 by kernel_rfl] at hsz
  obtain ⟨l⟩ := cs
  obtain ⟨v0, v1, rfl⟩ := list2 l hsz
  obtain ⟨fuel, hf⟩ := h
  obtain ⟨xs, m, _, hx, _, hlen, hel⟩ := DataW.trod_array Tryd.underlying24 hf
  obtain ⟨x0, x1, rfl⟩ := list2 xs hlen
  have e0 := hel 0 (by decide)
  have e1 := hel 1 (by decide)
  rw [cells_u32] at e0 e1
  obtain ⟨z0, h0, _, w0⟩ := DataW.trod_int Tryd.underlying23 e0
  obtain ⟨z1, h1, _, w1⟩ := DataW.trod_int Tryd.underlying23 e1
  have h0 : [v0] = [Value.int .u32 z0] := h0
  have h1 : [v1] = [Value.int .u32 z1] := h1
  cases h0
  cases h1
  have b0 := bounds_u32 w0
  have b1 := bounds_u32 w1
  exact ⟨z0.toNat, z1.toNat, by rw [Int.toNat_of_nonneg b0.1, Int.toNat_of_nonneg b1.1], by omega, by omega⟩
end
end Go.Proofs.YtakjbdeemifnmaaDoor
namespace Go.Proofs.YtakjbdeemifnmaaDoor
open Go.ChangeShapes Go.WideShapes Go.ChangeAt Go.RowKit

theorem wf_u16 {n : Int} (h : (Lit.int .u16 n).wf = true) : ∃ m : Nat, n = (m : Nat) ∧ m < 65536 := by
  have hb := bounds_u16 h
  exact ⟨n.toNat, by omega, by omega⟩
section
variable {H : Type} {enc : TypeId × Value → H} {w : World}
set_option maxRecDepth 100000 in
theorem open_turned16 {base : Nat} {v : Value} {d : DataW H} {p : List MemPlace} (hv : Value.okWide Tryd.prog w .any base 43 v) (h : DataW.Trod enc Tryd.prog w 0 (fun _ => true) true 43 v d p) (hz : ∀ n ∈ DataW.weights Tryd.prog 43 d, n ≤ reachBytes) :
    ∃ (q : Option Addr) (n c : Nat) (bs : List Nat) (s t x : Nat), v = .agg #[.slice q n c, .int .u8 (s : Nat), .int .u8 (t : Nat), .int .u8 (x : Nat)] ∧ Bytes w q n c bs ∧ s < 256 ∧ t < 256 ∧ x < 256 := by
  obtain ⟨v0, v1, v2, v3, y0, y1, y2, y3, n, rfl, rfl, rfl, hy0, hy1, hy2, hy3⟩ := Go.Joins.open_agg4 Tryd.underlying43 (by kernel_rfl) (by kernel_rfl) hv h
  obtain ⟨x1, e1, _, w1⟩ := DataW.trod_int Tryd.underlying5 hy1
  obtain ⟨x2, e2, _, w2⟩ := DataW.trod_int Tryd.underlying5 hy2
  obtain ⟨x3, e3, _, w3⟩ := DataW.trod_int Tryd.underlying5 hy3
  simp at e1 e2 e3
  subst e1 e2 e3
  have b1 := bounds_u8 w1
  have b2 := bounds_u8 w2
  have b3 := bounds_u8 w3
  obtain ⟨q, m, c, bs, h2, B2⟩ := open_bytes hy0 (fun k hk => hz k (by
    simp only [DataW.weights, Tryd.underlying43]
    show k ∈ DataW.weights Tryd.prog 22 y0.1 ++ (DataW.weights Tryd.prog 5 y1.1 ++ (DataW.weights Tryd.prog 5 y2.1 ++ (DataW.weights Tryd.prog 5 y3.1 ++ DataW.weightsEach Tryd.prog [] [])))
    exact List.mem_append.2 (Or.inl hk)))
  simp at h2
  subst h2
  exact ⟨q, m, c, bs, x1.toNat, x2.toNat, x3.toNat, by rw [Int.toNat_of_nonneg b1.1, Int.toNat_of_nonneg b2.1, Int.toNat_of_nonneg b3.1], B2, by omega, by omega, by omega⟩
theorem list5 {α : Type} (l : List α) (h : l.length = 5) : ∃ a b c d e, l = [a, b, c, d, e] := by
  match l, h with
  | [a, b, c, d, e], _ => exact ⟨a, b, c, d, e, rfl⟩
set_option maxRecDepth 100000 in
theorem open_back16 {base : Nat} {v : Value} {d : DataW H} {p : List MemPlace} (hv : Value.okWide Tryd.prog w .any base 26 v) (h : DataW.Trod enc Tryd.prog w 0 (fun _ => true) true 26 v d p) (hz : ∀ n ∈ DataW.weights Tryd.prog 26 d, n ≤ reachBytes) :
    ∃ (q : Option Addr) (n c : Nat) (bs : List Nat) (q' : Option Addr) (n' c' : Nat) (bs' : List Nat) (s t x : Nat), v = .agg #[.slice q n c, .slice q' n' c', .int .u32 (s : Nat), .int .u32 (t : Nat), .int .u8 (x : Nat)] ∧ Bytes w q n c bs ∧ Bytes w q' n' c' bs' ∧ s < 4294967296 ∧ t < 4294967296 ∧ x < 256 := by
  obtain ⟨cs, rfl, hsz⟩ := okWide_struct Tryd.underlying26 hv
  rw [show Tryd.prog.cellsOf 26 = 5 by kernel_rfl] at hsz
  obtain ⟨l⟩ := cs
  obtain ⟨v0, v1, v2, v3, v4, rfl⟩ := list5 l hsz
  obtain ⟨fuel, hf⟩ := h
  obtain ⟨y0, y1, y2, y3, n, hx, _, h0, h1, h2, h3⟩ := Go.Joins.trod_struct4 Tryd.underlying26 hf
  simp only [Prod.mk.injEq] at hx
  obtain ⟨rfl, rfl⟩ := hx
  have k0 : DataW.trod enc Tryd.prog w 0 (fun _ => true) true n 22 [v0] = some y0 := by
    have := h0; simp only [Value.cells, cells_bytes] at this; exact this
  have k1 : DataW.trod enc Tryd.prog w 0 (fun _ => true) true n 22 [v1] = some y1 := by
    have := h1; simp only [Value.cells, cells_bytes] at this; exact this
  have k2 : DataW.trod enc Tryd.prog w 0 (fun _ => true) true n 24 [v2, v3] = some y2 := by
    have := h2; simp only [Value.cells, show Tryd.prog.cellsOf 24 = 2 by kernel_rfl] at this; exact this
  have k3 : DataW.trod enc Tryd.prog w 0 (fun _ => true) true n 5 [v4] = some y3 := by
    have := h3; simp only [Value.cells, cells_u8] at this; exact this
  clear h0 h1 h2 h3
  obtain ⟨x3, e3, _, w3⟩ := DataW.trod_int Tryd.underlying5 k3
  simp at e3
  subst e3
  have b3 := bounds_u8 w3
  obtain ⟨xs, m, _, hx, _, hlen, hel⟩ := DataW.trod_array Tryd.underlying24 k2
  obtain ⟨x0, x1, rfl⟩ := list2 xs hlen
  have e0 := hel 0 (by decide)
  have e1 := hel 1 (by decide)
  rw [cells_u32] at e0 e1
  obtain ⟨z0, h0, _, w0⟩ := DataW.trod_int Tryd.underlying23 e0
  obtain ⟨z1, h1, _, w1⟩ := DataW.trod_int Tryd.underlying23 e1
  have h0 : [v2] = [Value.int .u32 z0] := h0
  have h1 : [v3] = [Value.int .u32 z1] := h1
  cases h0
  cases h1
  have b0 := bounds_u32 w0
  have b1 := bounds_u32 w1
  have hw : ∀ k, (k ∈ DataW.weights Tryd.prog 22 y0.1 ∨ k ∈ DataW.weights Tryd.prog 22 y1.1) → k ≤ reachBytes := fun k hk => hz k (by
    simp only [DataW.weights, Tryd.underlying26]
    show k ∈ DataW.weights Tryd.prog 22 y0.1 ++ (DataW.weights Tryd.prog 22 y1.1 ++ (DataW.weights Tryd.prog 24 y2.1 ++ (DataW.weights Tryd.prog 5 y3.1 ++ DataW.weightsEach Tryd.prog [] [])))
    rcases hk with hk | hk
    · exact List.mem_append.2 (Or.inl hk)
    · exact List.mem_append.2 (Or.inr (List.mem_append.2 (Or.inl hk))))
  obtain ⟨q, m0, c, bs, g0, B0⟩ := open_bytes k0 (fun k hk => hw k (Or.inl hk))
  obtain ⟨q', m1, c', bs', g1, B1⟩ := open_bytes k1 (fun k hk => hw k (Or.inr hk))
  simp at g0 g1
  subst g0 g1
  exact ⟨q, m0, c, bs, q', m1, c', bs', z0.toNat, z1.toNat, x3.toNat, by rw [Int.toNat_of_nonneg b0.1, Int.toNat_of_nonneg b1.1, Int.toNat_of_nonneg b3.1], B0, B1, by omega, by omega, by omega⟩
end
end Go.Proofs.YtakjbdeemifnmaaDoor
namespace Go.Proofs.YtakjbdeemifnmaaDoor
open Go.ChangeShapes Go.WideShapes Go.ChangeAt Go.RowKit

def tabFirst : Array Value := (Go.Pinned.utf8FirstZ.map fun (n : Nat) => Value.int .u8 n).toArray
def tabRanges : Array Value := ([128, 191, 160, 191, 128, 159, 144, 191, 128, 143].map (fun (n : Nat) => Value.int .u8 n) ++ List.replicate 22 (Value.int .u8 0)).toArray
def layTab (c : Array Value) : Obj → Obj
  | .cells _ t frozen => .cells c t frozen
  | o => o
noncomputable def laidWorld (os : Os) : World :=
  { World.holding Tryd.prog os ⟨#[], #[], []⟩ with heap := (((World.holding Tryd.prog os ⟨#[], #[], []⟩).heap.modify 0 (layTab tabFirst)).modify 1 (layTab tabRanges)) }
end Go.Proofs.YtakjbdeemifnmaaDoor
