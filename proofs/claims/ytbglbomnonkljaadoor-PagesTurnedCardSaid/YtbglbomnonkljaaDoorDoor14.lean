/-
  The end of every law of this seat: a call that answers true and turns nothing that was there meets the row. No condition.
  What the plain rows of this seat share.
  What comes in, opened: bytes, numbers, two bytes in an array.
  What comes in, opened: two numbers in an array, a page.
  What the rows of this seat share: the tables of package unicode/utf8 laid in their variables, a world for the witness.
-/
import Derived.Test.YtbglbomnonkljaaDoorRows
import Derived.WalkKit
import Derived.ProofKit
import Derived.OpenShut
import Derived.Deep.DeepHandedRow
import Derived.Lib.LaidTab
import Derived.Test.YtbglbomnonkljaaDoorOpen
import Derived.Test.YtbglbomnonkljaaDoorIn
import Derived.Test.YtbglbomnonkljaaDoorProg
import Derived.Laws.IdiomArrays
import Derived.Lib.SmallJoins
import Derived.Test.YtbglbomnonkljaaDoorCards
import Derived.Test.YtbglbomnonkljaaDoorTie
namespace Go.Proofs.YtbglbomnonkljaaDoor
open Go.ChangeShapes Go.WideShapes Go.ChangeAt Go.RowKit

section
variable {H : Type} {enc : TypeId × Value → H} {P : Program}

theorem trodAll_below (hl : laidOutB P = true) {W W' : World} (hb : Below W.heap.size W W') : ∀ (ts : List TypeId) (vs : List Value) (ds : List (DataW H)) (ps : List MemPlace),
    (∀ t ∈ ts, P.readableRec t = true ∧ t < P.types.size) → DataW.TrodAll enc P W 0 (fun _ => true) true ts vs ds ps → (∀ x ∈ ps, x.block < W.heap.size) →
    DataW.TrodAll enc P W' 0 (fun b => decide (b < W.heap.size)) true ts vs ds ps
  | [], vs, ds, ps, _, h, _ => by
    obtain ⟨rfl, rfl, rfl⟩ := trodAll_nil h
    exact trodAll_mk0
  | t :: ts, vs, ds, ps, ht, h, hlt => by
    obtain ⟨v0, vs0, d0, ds0, p0, q0, rfl, rfl, rfl, h0, r0⟩ := trodAll_cons h
    exact trodAll_cons_mk (Below.trod hl (ht t (by simp)).1 (ht t (by simp)).2 h0 hb fun x hx => hlt x (by simp [hx]))
      (trodAll_below hl hb ts vs0 ds0 q0 (fun t h => ht t (by simp [h])) r0 fun x hx => hlt x (by simp [hx]))

/-- THE END OF A LAW: it says true, and of what was there nothing has turned. -/
theorem law_post {f : Func} {s : ChangeSpec} {tb : TypeId} (hl : laidOutB P = true) (hr : f.params.toList.all (fun t => P.readableRec t && decide (t < P.types.size)) = true) (hv : s.vars = [])
    (hres : f.resultTypes = #[tb]) (htb : P.underlying tb = some .bool) {W W' : World} {args : Array Value} {ds gs : List (DataW H)} {before : List MemPlace}
    (hW : DataW.Whole enc P f.params.toList s.vars false W args.toList ds gs before) (hfn : s.fn H ds = { results := [.lit (.bool true)], args := ds }) (hb : Below W.heap.size W W') :
    s.post enc P f false true false false W args (.bool true) W' := by
  have hlt := hW.lt
  have hW0 := hW
  obtain ⟨p, q, hA, hV, rfl, _, _⟩ := hW0
  rw [hv] at hV
  obtain ⟨rfl, rfl⟩ := trodVars_none hV
  have hA' : DataW.TrodAll enc P W' 0 (fun b => decide (b < W.heap.size)) true f.params.toList args.toList ds p :=
    trodAll_below hl hb _ _ _ _ (fun t ht => by simpa using List.all_eq_true.1 hr t ht) hA (fun x hx => by simpa using hlt x (by simpa using hx))
  refine ⟨ds, [], p ++ [], [], p, [], hW, ?_, ?_, ?_, hb.frame _, fun h => by cases h⟩
  · rw [List.append_nil, hfn, hres]
    exact trodAll_cons_mk (shut_bool htb _) trodAll_mk0
  · rw [List.append_nil, hfn]; exact hA'
  · rw [List.append_nil, hfn, hv]
    exact rfl
end
end Go.Proofs.YtbglbomnonkljaaDoor
namespace Go.Proofs.YtbglbomnonkljaaDoor
open Go.ChangeShapes Go.WideShapes Go.ChangeAt Go.RowKit
theorem own : ownKnob Tryd.prog.godebug = none := by kernel_rfl
theorem laidOut : laidOutB Tryd.prog = true := by kernel_rfl
theorem wf_u8 {n : Int} (h : (Lit.int .u8 n).wf = true) : ∃ m : Nat, n = (m : Nat) ∧ m < 256 := by
  have := bounds_u8 h
  exact ⟨n.toNat, by omega, by omega⟩
theorem wf_u64 {n : Int} (h : (Lit.int .u64 n).wf = true) : ∃ m : Nat, n = (m : Nat) ∧ m < 18446744073709551616 := by
  have := bounds_u64 h
  exact ⟨n.toNat, by omega, by omega⟩
end Go.Proofs.YtbglbomnonkljaaDoor
namespace Go.Proofs.YtbglbomnonkljaaDoor
open Go.ChangeShapes Go.WideShapes Go.ChangeAt Go.RowKit

section
variable {H : Type} {enc : TypeId × Value → H} {w : World}
theorem cells_u8 : Tryd.prog.cellsOf 5 = 1 := by kernel_rfl
theorem cells_i32 : Tryd.prog.cellsOf 21 = 1 := by kernel_rfl
theorem cells_bytes : Tryd.prog.cellsOf 23 = 1 := by kernel_rfl
theorem bytes_u8 : Tryd.prog.bytesOf 5 = 1 := by kernel_rfl
theorem bytes_i32 : Tryd.prog.bytesOf 21 = 4 := by kernel_rfl
theorem wf_u32 {n : Int} (h : (Lit.int .u32 n).wf = true) : ∃ m : Nat, n = (m : Nat) ∧ m < 4294967296 := by
  have := bounds_u32 h
  exact ⟨n.toNat, by omega, by omega⟩

theorem open_bytes {fuel : Nat} {cs : List Value} {x : DataW H × List MemPlace} (h : DataW.trod enc Tryd.prog w 0 (fun _ => true) true fuel 23 cs = some x) (hz : ∀ n ∈ DataW.weights Tryd.prog 23 x.1, n ≤ reachBytes) :
    ∃ a n cap b, cs = [.slice a n cap] ∧ Bytes w a n cap b := by
  obtain ⟨a, cap, zs, rfl, hl, hm, hr, hwf, hwt, _⟩ := open_list Tryd.underlying23 Tryd.underlying5 cells_u8 h
  have hpos : ∀ z ∈ zs, 0 ≤ z := fun z hz' => (bounds_u8 (hwf z hz')).1
  refine ⟨a, zs.length, cap, zs.map Int.toNat, rfl, by rw [List.length_map], hl, ?_, by rw [← ints_nums hpos]; exact hr, fun x hx => by obtain ⟨z, hz', rfl⟩ := List.mem_map.1 hx; have := bounds_u8 (hwf z hz'); omega⟩
  rcases hwt with h0 | h0
  · omega
  · have := hz _ h0
    rw [bytes_u8] at this
    unfold reachBytes at this
    omega
theorem list2 {α : Type} (l : List α) (h : l.length = 2) : ∃ a b, l = [a, b] := by
  match l, h with
  | [a, b], _ => exact ⟨a, b, rfl⟩
set_option maxRecDepth 100000 in
/-- two bytes in an array, by value -/
theorem open_around {base : Nat} {v : Value} {d : DataW H} {p : List MemPlace} (hv : Value.okWide Tryd.prog w .any base 47 v) (h : DataW.Trod enc Tryd.prog w 0 (fun _ => true) true 47 v d p) (hz : ∀ n ∈ DataW.weights Tryd.prog 47 d, n ≤ reachBytes) :
    ∃ a0 n0 c0 b0 a1 n1 c1 b1, v = .agg #[.slice a0 n0 c0, .slice a1 n1 c1] ∧ Bytes w a0 n0 c0 b0 ∧ Bytes w a1 n1 c1 b1 := by
  obtain ⟨cs, rfl, hsz, _⟩ : ∃ cs, v = .agg cs ∧ cs.size = Tryd.prog.cellsOf 47 ∧ Row.okWide Tryd.prog w .any base 47 cs := by
    simpa [Value.okWide, Tryd.underlying47] using hv
  rw [show Tryd.prog.cellsOf 47 = 2 by kernel_rfl] at hsz
  obtain ⟨l⟩ := cs
  obtain ⟨v0, v1, rfl⟩ := list2 l hsz
  obtain ⟨fuel, hf⟩ := h
  obtain ⟨xs, m, _, hx, _, hlen, hel⟩ := DataW.trod_array Tryd.underlying47 hf
  obtain ⟨x0, x1, rfl⟩ := list2 xs hlen
  have e0 := hel 0 (by decide)
  have e1 := hel 1 (by decide)
  rw [cells_bytes] at e0 e1
  have hd : d = .agg [x0.1, x1.1] := congrArg Prod.fst hx
  subst hd
  simp only [DataW.weights, Tryd.underlying47, DataW.weightsAll, List.mem_append] at hz
  obtain ⟨a0, n0, c0, b0, h0, B0⟩ := open_bytes (x := x0) e0 (fun n hn => hz n (Or.inl hn))
  obtain ⟨a1, n1, c1, b1, h1, B1⟩ := open_bytes (x := x1) e1 (fun n hn => hz n (Or.inr (Or.inl hn)))
  have h0 : [v0] = [Value.slice a0 n0 c0] := h0
  have h1 : [v1] = [Value.slice a1 n1 c1] := h1
  cases h0
  cases h1
  exact ⟨a0, n0, c0, b0, a1, n1, c1, b1, rfl, B0, B1⟩
end
end Go.Proofs.YtbglbomnonkljaaDoor
namespace Go.Proofs.YtbglbomnonkljaaDoor
open Go.ChangeShapes Go.WideShapes Go.ChangeAt Go.RowKit

section
variable {H : Type} {enc : TypeId × Value → H} {w : World}
theorem cells_u32 : Tryd.prog.cellsOf 22 = 1 := by kernel_rfl
set_option maxRecDepth 100000 in
theorem open_pair32 {base : Nat} {v : Value} {d : DataW H} {p : List MemPlace} (hv : Value.okWide Tryd.prog w .any base 36 v) (h : DataW.Trod enc Tryd.prog w 0 (fun _ => true) true 36 v d p) :
    ∃ k0 k1 : Nat, v = .agg #[.int .u32 (k0 : Nat), .int .u32 (k1 : Nat)] ∧ k0 < 4294967296 ∧ k1 < 4294967296 := by
  obtain ⟨cs, rfl, hsz, _⟩ : ∃ cs, v = .agg cs ∧ cs.size = Tryd.prog.cellsOf 36 ∧ Row.okWide Tryd.prog w .any base 36 cs := by
    simpa [Value.okWide, Tryd.underlying36] using hv
  rw [show Tryd.prog.cellsOf 36 = 2 by kernel_rfl] at hsz
  obtain ⟨l⟩ := cs
  obtain ⟨v0, v1, rfl⟩ := list2 l hsz
  obtain ⟨fuel, hf⟩ := h
  obtain ⟨xs, m, _, hx, _, hlen, hel⟩ := DataW.trod_array Tryd.underlying36 hf
  obtain ⟨x0, x1, rfl⟩ := list2 xs hlen
  have e0 := hel 0 (by decide)
  have e1 := hel 1 (by decide)
  rw [cells_u32] at e0 e1
  obtain ⟨z0, h0, _, w0⟩ := DataW.trod_int Tryd.underlying22 e0
  obtain ⟨z1, h1, _, w1⟩ := DataW.trod_int Tryd.underlying22 e1
  have h0 : [v0] = [Value.int .u32 z0] := h0
  have h1 : [v1] = [Value.int .u32 z1] := h1
  cases h0
  cases h1
  have b0 := bounds_u32 w0
  have b1 := bounds_u32 w1
  exact ⟨z0.toNat, z1.toNat, by rw [Int.toNat_of_nonneg b0.1, Int.toNat_of_nonneg b1.1], by omega, by omega⟩
set_option maxRecDepth 100000 in
theorem open_pair8 {base : Nat} {v : Value} {d : DataW H} {p : List MemPlace} (hv : Value.okWide Tryd.prog w .any base 46 v) (h : DataW.Trod enc Tryd.prog w 0 (fun _ => true) true 46 v d p) :
    ∃ k0 k1 : Nat, v = .agg #[.int .u8 (k0 : Nat), .int .u8 (k1 : Nat)] ∧ k0 < 256 ∧ k1 < 256 := by
  obtain ⟨cs, rfl, hsz, _⟩ : ∃ cs, v = .agg cs ∧ cs.size = Tryd.prog.cellsOf 46 ∧ Row.okWide Tryd.prog w .any base 46 cs := by
    simpa [Value.okWide, Tryd.underlying46] using hv
  rw [show Tryd.prog.cellsOf 46 = 2 by kernel_rfl] at hsz
  obtain ⟨l⟩ := cs
  obtain ⟨v0, v1, rfl⟩ := list2 l hsz
  obtain ⟨fuel, hf⟩ := h
  obtain ⟨xs, m, _, hx, _, hlen, hel⟩ := DataW.trod_array Tryd.underlying46 hf
  obtain ⟨x0, x1, rfl⟩ := list2 xs hlen
  have e0 := hel 0 (by decide)
  have e1 := hel 1 (by decide)
  rw [cells_u8] at e0 e1
  obtain ⟨z0, h0, _, w0⟩ := DataW.trod_int Tryd.underlying5 e0
  obtain ⟨z1, h1, _, w1⟩ := DataW.trod_int Tryd.underlying5 e1
  have h0 : [v0] = [Value.int .u8 z0] := h0
  have h1 : [v1] = [Value.int .u8 z1] := h1
  cases h0
  cases h1
  have b0 := bounds_u8 w0
  have b1 := bounds_u8 w1
  exact ⟨z0.toNat, z1.toNat, by rw [Int.toNat_of_nonneg b0.1, Int.toNat_of_nonneg b1.1], by omega, by omega⟩
set_option maxRecDepth 100000 in
theorem open_page {base : Nat} {v : Value} {d : DataW H} {p : List MemPlace} (hv : Value.okWide Tryd.prog w .any base 25 v) (h : DataW.Trod enc Tryd.prog w 0 (fun _ => true) true 25 v d p) (hz : ∀ n ∈ DataW.weights Tryd.prog 25 d, n ≤ reachBytes) :
    ∃ (a b : Nat) (q : Option Addr) (n c : Nat) (bs : List Nat), v = .agg #[.int .u32 (a : Nat), .int .u32 (b : Nat), .slice q n c] ∧ a < 4294967296 ∧ b < 4294967296 ∧ Bytes w q n c bs := by
  obtain ⟨v0, v1, v2, y0, y1, y2, n, rfl, rfl, rfl, hy0, hy1, hy2⟩ := Go.Joins.open_agg3 Tryd.underlying25 (by kernel_rfl) (by kernel_rfl) hv h
  obtain ⟨x0, e0, _, w0⟩ := DataW.trod_int Tryd.underlying22 hy0
  obtain ⟨x1, e1, _, w1⟩ := DataW.trod_int Tryd.underlying22 hy1
  simp at e0 e1
  subst e0 e1
  have b0 := bounds_u32 w0
  have b1 := bounds_u32 w1
  obtain ⟨q, m, c, bs, h2, B2⟩ := open_bytes hy2 (fun k hk => hz k (by
    simp only [DataW.weights, Tryd.underlying25]
    show k ∈ DataW.weights Tryd.prog 22 y0.1 ++ (DataW.weights Tryd.prog 22 y1.1 ++ (DataW.weights Tryd.prog 23 y2.1 ++ DataW.weightsEach Tryd.prog [] []))
    exact List.mem_append.2 (Or.inr (List.mem_append.2 (Or.inr (List.mem_append.2 (Or.inl hk)))))))
  simp at h2
  subst h2
  exact ⟨x0.toNat, x1.toNat, q, m, c, bs, by rw [Int.toNat_of_nonneg b0.1, Int.toNat_of_nonneg b1.1], by omega, by omega, B2⟩
end
end Go.Proofs.YtbglbomnonkljaaDoor
namespace Go.Proofs.YtbglbomnonkljaaDoor
open Go.ChangeShapes Go.WideShapes Go.ChangeAt Go.RowKit

def tabFirst : Array Value := (Go.Pinned.utf8FirstZ.map fun (n : Nat) => Value.int .u8 n).toArray
def tabRanges : Array Value := ([128, 191, 160, 191, 128, 159, 144, 191, 128, 143].map (fun (n : Nat) => Value.int .u8 n) ++ List.replicate 22 (Value.int .u8 0)).toArray
def layTab (c : Array Value) : Obj → Obj
  | .cells _ t frozen => .cells c t frozen
  | o => o
noncomputable def laidWorld (os : Os) : World :=
  { World.holding Tryd.prog os ⟨#[], #[], []⟩ with heap := (((World.holding Tryd.prog os ⟨#[], #[], []⟩).heap.modify 0 (layTab tabFirst)).modify 1 (layTab tabRanges)) }
end Go.Proofs.YtbglbomnonkljaaDoor
