/-
  Package roots by its own text: Read, Write.
  The plain mathematics of pages (chapter 14): a page's bytes, what is got of bytes, sums that tell four neighbours. No program in sight.
  The plain mathematics of pages on a disk (chapter 14). No program in sight.
  The plain mathematics of a page of which four neighbours turn. No program in sight.
-/
import Derived.Test.YtnffigfafalocaaGreatDoorK11
import Derived.Test.YtnffigfafalocaaGreatDoorK08
import Derived.Test.YtnffigfafalocaaGreatDoorK06
namespace Go.Proofs.YtnffigfafalocaaGreatDoor
open Go Go.RowKit
set_option linter.unusedSimpArgs false

set_option maxRecDepth 100000 in
set_option maxHeartbeats 4000000 in
theorem rootRead_of (w : World) (p : Value) (r : Rt.Root) (nx er : Nat) (hf : ∀ wx, Touch No w wx → Calls Tryz.prog 145 #[p] wx (FindPost wx r nx er)) :
    Calls Tryz.prog 158 #[p] w (RootPost w r er) := by
  have Hf := Lib.hid hf
  clear hf
  obtain ⟨xe, xf, xb⟩ := r
  go_enter Tryz.func158, Tryz.ntmps158
  go_wp2_with fail
  refine (Hf.out _ ((Touch.refl No w).alloc _)).mono ?_
  rintro e w1 ⟨rfl, t1⟩
  have hold := (Row.new w 116 #[.int .u32 0, .int .u32 0, .int .u32 0]).touch t1 id
  have c0 : w1.cell? ⟨w.heap.size, 0, none⟩ = some (.int .u32 0) := hold.cell 0
  have c1 : w1.cell? ⟨w.heap.size, 1, none⟩ = some (.int .u32 0) := hold.cell 1
  have c2 : w1.cell? ⟨w.heap.size, 2, none⟩ = some (.int .u32 0) := hold.cell 2
  have f0 := hold.soft 0
  have f1 := hold.soft 1
  have f2 := hold.soft 2
  have hlt : w.heap.size < w1.heap.size := lt_of_cell c0
  have hne : ¬ w.heap.size = w1.heap.size := by omega
  have T1 := Lib.hid (((Touch.refl No w).alloc (.cells #[.int .u32 0, .int .u32 0, .int .u32 0] 116)).trans t1)
  clear hold t1
  go_wp2
  refine bodyPost_ret (v := .tuple #[.agg #[.int .u32 (xe : Nat), .int .u32 (xf : Nat), .int .u32 (xb : Nat)], .int .i64 (er : Nat)]) (by simp [results, Tryz.results158, go_sem, c0, c1, c2, hlt]) rfl ⟨rfl, ?_⟩
  have hn : ∀ o' : Nat, (⟨w.heap.size, o', none⟩ : Addr).block < w.heap.size → No (⟨w.heap.size, o', none⟩ : Addr).block := fun o' h => absurd (show w.heap.size < w.heap.size from h) (Nat.lt_irrefl _)
  exact (((T1.out.setCell (p := ⟨w.heap.size, 0, none⟩) (hn 0) _).setCell (p := ⟨w.heap.size, 1, none⟩) (hn 1) _).setCell (p := ⟨w.heap.size, 2, none⟩) (hn 2) _).alloc _
theorem rootRead_any (w : World) (d : Nat) (D : Dk.Disk) (O : Nat → Prop) (h : DiskAt w d D O) :
    Calls Tryz.prog 158 #[.pointer (some ⟨d, 0, none⟩)] w (RootPost w (Rt.findR D) (Rt.findE D)) :=
  rootRead_of w _ _ (Rt.findN D) _ (fun wx t => find_any wx d D O (h.no t))
namespace Rt
def wE (D : Dk.Disk) (r : Root) : Nat := if findE D ≠ 0 ∧ findE D ≠ 7 then findE D else if findE D = 0 ∧ r.epoch ≤ (findR D).epoch then 1 else 0
def wD (D : Dk.Disk) (r : Root) : Dk.Disk := if wE D r = 0 then Dk.sync (Dk.write (Dk.sync D) (findN D) (put r)) else D
theorem findN_le (D : Dk.Disk) : findN D ≤ 1 := by unfold findN; split <;> omega
theorem findE_len {D : Dk.Disk} (h : findE D = 0 ∨ findE D = 7) : 8 ≤ D.seen.length := by
  rcases Nat.lt_or_ge D.seen.length 8 with h8 | h8
  · rw [findE, if_pos h8] at h; omega
  · exact h8
end Rt

end Go.Proofs.YtnffigfafalocaaGreatDoor
namespace Go.Proofs.YtnffigfafalocaaGreatDoor
open Go Go.RowKit
namespace Rt
/-! ### four neighbours -/
theorem xor_shift {a b : Nat} (k : Nat) : (a ^^^ b) / 2 ^ k = a / 2 ^ k ^^^ b / 2 ^ k := by
  rw [← Nat.shiftRight_eq_div_pow, ← Nat.shiftRight_eq_div_pow, ← Nat.shiftRight_eq_div_pow, Nat.shiftRight_xor_distrib]
theorem step_top {r c : Nat} (hr : r < 4294967296) : step r c / 16777216 = tab (r % 256 ^^^ c) / 16777216 := xor_top (by omega)
theorem step_hi {r r' c c' : Nat} (k : Nat) (hi : r % 256 ^^^ c = r' % 256 ^^^ c') (h : step r c / 2 ^ k = step r' c' / 2 ^ k) : r / 256 / 2 ^ k = r' / 256 / 2 ^ k := by
  unfold step at h
  rw [hi, xor_shift, xor_shift] at h
  exact xor_cancel h
theorem run4_inj {r a b c d a' b' c' d' : Nat} (hr : r < 4294967296) (ha : a < 256) (hb : b < 256) (hc : c < 256) (hd : d < 256) (ha' : a' < 256) (hb' : b' < 256) (hc' : c' < 256) (hd' : d' < 256)
    (h : run r [a, b, c, d] = run r [a', b', c', d']) : [a, b, c, d] = [a', b', c', d'] := by
  simp only [run] at h
  have r1 := step_lt hr ha
  have r1' := step_lt hr ha'
  have r2 := step_lt r1 hb
  have r2' := step_lt r1' hb'
  have r3 := step_lt r2 hc
  have r3' := step_lt r2' hc'
  have i3 := step_idx r3 r3' hd hd' h
  have q3 := step_hi 0 i3 (by rw [h])
  rw [Nat.pow_zero, Nat.div_one, Nat.div_one] at q3
  have i2 : step (step r a) b % 256 ^^^ c = step (step r a') b' % 256 ^^^ c' := by
    refine tops_inj (idx_lt hc) (idx_lt hc') ?_
    rw [← step_top r2, ← step_top r2']
    omega
  have q2 := step_hi 8 i2 (by show _ / 256 = _ / 256; exact q3)
  have i1 : step r a % 256 ^^^ b = step r a' % 256 ^^^ b' := by
    refine tops_inj (idx_lt hb) (idx_lt hb') ?_
    rw [← step_top r1, ← step_top r1']
    have : step (step r a) b / 256 / 256 = step (step r a') b' / 256 / 256 := q2
    omega
  have q1 := step_hi 16 i1 (by
    show _ / 65536 = _ / 65536
    have : step (step r a) b / 256 / 256 = step (step r a') b' / 256 / 256 := q2
    omega)
  have i0 : r % 256 ^^^ a = r % 256 ^^^ a' := by
    refine tops_inj (idx_lt ha) (idx_lt ha') ?_
    rw [← step_top hr, ← step_top hr]
    have : step r a / 256 / 65536 = step r a' / 256 / 65536 := q1
    omega
  have e0 := xor_cancel i0
  subst e0
  have e1 := xor_cancel i1
  subst e1
  have e2 := xor_cancel i2
  subst e2
  have e3 := xor_cancel i3
  subst e3
  rfl
theorem list4 {l : List Nat} (h : l.length = 4) : ∃ a b c d, l = [a, b, c, d] := by
  match l, h with
  | [a, b, c, d], _ => exact ⟨a, b, c, d, rfl⟩
/-- up to four neighbours other ones: another register -/
theorem run_few {r : Nat} {x y : List Nat} (hr : r < 4294967296) (hxy : x.length = y.length) (h4 : x.length ≤ 4) (hx : ∀ c ∈ x, c < 256) (hy : ∀ c ∈ y, c < 256) (h : run r x = run r y) : x = y := by
  have h1 : run r (x ++ List.replicate (4 - x.length) 0) = run r (y ++ List.replicate (4 - x.length) 0) := by rw [run_append, run_append, h]
  obtain ⟨a, b, c, d, e⟩ := list4 (l := x ++ List.replicate (4 - x.length) 0) (by simp; omega)
  obtain ⟨a', b', c', d', e'⟩ := list4 (l := y ++ List.replicate (4 - x.length) 0) (by simp; omega)
  have hx' : ∀ q ∈ x ++ List.replicate (4 - x.length) 0, q < 256 := fun q hq => by
    rcases List.mem_append.1 hq with h | h
    · exact hx q h
    · rw [(List.mem_replicate.1 h).2]; decide
  have hy' : ∀ q ∈ y ++ List.replicate (4 - x.length) 0, q < 256 := fun q hq => by
    rcases List.mem_append.1 hq with h | h
    · exact hy q h
    · rw [(List.mem_replicate.1 h).2]; decide
  rw [e] at hx' h1
  rw [e'] at hy' h1
  have h2 := run4_inj hr (hx' a (by simp)) (hx' b (by simp)) (hx' c (by simp)) (hx' d (by simp)) (hy' a' (by simp)) (hy' b' (by simp)) (hy' c' (by simp)) (hy' d' (by simp)) h1
  rw [← e, ← e'] at h2
  exact (List.append_inj h2 hxy).1
/-- .. another sum -/
theorem on_few {sum : Nat} {a x y b : List Nat} (hxy : x.length = y.length) (h4 : x.length ≤ 4) (ha : ∀ c ∈ a, c < 256) (hx : ∀ c ∈ x, c < 256) (hy : ∀ c ∈ y, c < 256) (hb : ∀ c ∈ b, c < 256) (h : on sum (a ++ x ++ b) = on sum (a ++ y ++ b)) : x = y := by
  have hr := run_lt a (neg_lt sum) ha
  unfold on at h
  rw [run_append, run_append, run_append, run_append] at h
  have h1 := neg_inj (run_lt _ (run_lt _ hr hx) hb) (run_lt _ (run_lt _ hr hy) hb) h
  exact run_few hr hxy h4 hx hy (run_inj b (run_lt _ hr hx) (run_lt _ hr hy) hb h1)
end Rt

namespace Pg
/-- a page's bytes -/
def head (num epoch : Nat) (body : List Nat) : List Nat := Rt.four num ++ Rt.four epoch ++ Rt.four body.length
def sum (num epoch : Nat) (body : List Nat) : Nat := Rt.on (Rt.of (head num epoch body)) body
def put (num epoch : Nat) (body : List Nat) : List Nat := head num epoch body ++ Rt.four (sum num epoch body) ++ body ++ List.replicate (240 - body.length) 0
theorem head_length (num epoch : Nat) (body : List Nat) : (head num epoch body).length = 12 := rfl
theorem sum_lt (num epoch : Nat) (body : List Nat) : sum num epoch body < 4294967296 := Rt.on_lt
theorem put_length {num epoch : Nat} {body : List Nat} (h : body.length ≤ 240) : (put num epoch body).length = 256 := by
  simp only [put, List.length_append, head_length, Rt.four_length, List.length_replicate]; omega
theorem head_lt (num epoch : Nat) (body : List Nat) : ∀ x ∈ head num epoch body, x < 256 := by
  intro x hx
  simp only [head, List.mem_append] at hx
  rcases hx with (h | h) | h <;> exact Rt.four_lt _ x h
theorem put_lt {num epoch : Nat} {body : List Nat} (hb : ∀ x ∈ body, x < 256) : ∀ x ∈ put num epoch body, x < 256 := by
  intro x hx
  simp only [put, List.mem_append] at hx
  rcases hx with ((h | h) | h) | h
  · exact head_lt _ _ _ x h
  · exact Rt.four_lt _ x h
  · exact hb x h
  · rw [(List.mem_replicate.1 h).2]; decide

/-- what Get says of bytes -/
def many (b : List Nat) : Nat := Rt.unfour (b.drop 8)
def body (b : List Nat) : List Nat := (b.drop 16).take (many b)
def told (b : List Nat) : Nat := Rt.unfour (b.drop 12)
def right (b : List Nat) : Nat := Rt.on (Rt.of (b.take 12)) (body b)
def form (b : List Nat) : Prop := b.length = 256 ∧ many b ≤ 240 ∧ Rt.nought (b.drop (16 + many b)) = true
instance (b : List Nat) : Decidable (form b) := by unfold form; infer_instance
def err (num : Nat) (b : List Nat) : Nat := if form b then (if right b ≠ told b then 11 else if Rt.unfour b ≠ num then 4 else 0) else 4
def epochOf (num : Nat) (b : List Nat) : Nat := if err num b = 0 then Rt.unfour (b.drop 4) else 0
def bodyOf (num : Nat) (b : List Nat) : List Nat := if err num b = 0 then body b else []

theorem body_len0 {b : List Nat} (h : form b) : (body b).length = many b := by
  obtain ⟨h1, h2, _⟩ := h
  rw [body, List.length_take, List.length_drop]; omega
theorem put_parts {num epoch : Nat} (hn : num < 4294967296) (he : epoch < 4294967296) {q : List Nat} (hq : q.length ≤ 240) :
    many (put num epoch q) = q.length ∧ body (put num epoch q) = q ∧ told (put num epoch q) = sum num epoch q ∧ (put num epoch q).take 12 = head num epoch q ∧ Rt.unfour (put num epoch q) = num ∧ Rt.unfour ((put num epoch q).drop 4) = epoch ∧ form (put num epoch q) := by
  have e8 : (put num epoch q).drop 8 = Rt.four q.length ++ (Rt.four (sum num epoch q) ++ (q ++ List.replicate (240 - q.length) 0)) := by
    simp only [put, head, List.append_assoc]; rfl
  have e12 : (put num epoch q).drop 12 = Rt.four (sum num epoch q) ++ (q ++ List.replicate (240 - q.length) 0) := by
    simp only [put, head, List.append_assoc]; rfl
  have e16 : (put num epoch q).drop 16 = q ++ List.replicate (240 - q.length) 0 := by
    simp only [put, head, List.append_assoc]; rfl
  have e4 : (put num epoch q).drop 4 = Rt.four epoch ++ (Rt.four q.length ++ (Rt.four (sum num epoch q) ++ (q ++ List.replicate (240 - q.length) 0))) := by
    simp only [put, head, List.append_assoc]; rfl
  have e0 : put num epoch q = Rt.four num ++ (Rt.four epoch ++ (Rt.four q.length ++ (Rt.four (sum num epoch q) ++ (q ++ List.replicate (240 - q.length) 0)))) := by
    simp only [put, head, List.append_assoc]
  have hm : many (put num epoch q) = q.length := by rw [many, e8, Nm.unfour_app (by omega)]
  have hb : body (put num epoch q) = q := by rw [body, hm, e16, List.take_left]
  refine ⟨hm, hb, by rw [told, e12, Nm.unfour_app (sum_lt _ _ _)], ?_, by rw [e0, Nm.unfour_app hn], by rw [e4, Nm.unfour_app he], put_length hq, by rw [hm]; exact hq, ?_⟩
  · simp only [put, List.append_assoc]; rfl
  · rw [hm, ← List.drop_drop, e16, List.drop_left]
    simp [Rt.nought]
theorem put_err {num epoch : Nat} (hn : num < 4294967296) (he : epoch < 4294967296) {q : List Nat} (hq : q.length ≤ 240) (other : Nat) : err other (put num epoch q) = if other = num then 0 else 4 := by
  obtain ⟨hm, hb, ht, h12, h0, h4, hf⟩ := put_parts hn he hq
  have hr : right (put num epoch q) = told (put num epoch q) := by rw [right, h12, hb, ht, sum]
  rw [err, if_pos hf, if_neg (fun h => h hr), h0]
  by_cases h : other = num
  · rw [if_neg (fun h' => h' h.symm), if_pos h]
  · rw [if_pos (fun h' => h h'.symm), if_neg h]
theorem put_get {num epoch : Nat} (hn : num < 4294967296) (he : epoch < 4294967296) {q : List Nat} (hq : q.length ≤ 240) : epochOf num (put num epoch q) = epoch ∧ bodyOf num (put num epoch q) = q := by
  obtain ⟨hm, hb, ht, h12, h0, h4, hf⟩ := put_parts hn he hq
  have h := put_err hn he hq num
  rw [if_pos rfl] at h
  exact ⟨by rw [epochOf, if_pos h, h4], by rw [bodyOf, if_pos h, hb]⟩
theorem err_length {num : Nat} {b : List Nat} (h : b.length ≠ 256) : err num b = 4 := by
  rw [err, if_neg (fun hf => h hf.1)]
theorem err_no {num : Nat} {b : List Nat} (h : err num b ≠ 0) : epochOf num b = 0 ∧ bodyOf num b = [] := ⟨by rw [epochOf, if_neg h], by rw [bodyOf, if_neg h]⟩
theorem err_kinds (num : Nat) (b : List Nat) : err num b = 0 ∨ err num b = 4 ∨ err num b = 11 := by
  unfold err
  split
  · split
    · simp
    · split <;> simp
  · simp
end Pg
end Go.Proofs.YtnffigfafalocaaGreatDoor
namespace Go.Proofs.YtnffigfafalocaaGreatDoor
open Go Go.RowKit
def onD (D : Dk.Disk) (p : Nat) : Nat := if 4 * p + 4 ≤ D.seen.length then 0 else 1
namespace Pg
def chunk (b : List Nat) (i : Nat) : List Nat := (b.drop (64 * i)).take 64
theorem chunk_length {b : List Nat} (hb : b.length = 256) {i : Nat} (hi : i < 4) : (chunk b i).length = 64 := by
  rw [chunk, List.length_take, List.length_drop]; omega
theorem chunk_lt {b : List Nat} (hb : ∀ x ∈ b, x < 256) (i : Nat) : ∀ x ∈ chunk b i, x < 256 := fun x hx => hb x (List.mem_of_mem_drop (List.mem_of_mem_take hx))
theorem chunks (b : List Nat) (hb : b.length = 256) : chunk b 0 ++ chunk b 1 ++ chunk b 2 ++ chunk b 3 = b := by
  simp only [chunk]
  have h3 : (b.drop (64 * 3)).take 64 = b.drop 192 := List.take_of_length_le (by rw [List.length_drop]; omega)
  rw [h3]
  have e : ∀ k, (b.drop k).take 64 ++ b.drop (k + 64) = b.drop k := fun k => by rw [← List.drop_drop, List.take_append_drop]
  rw [List.append_assoc, List.append_assoc, e 128, e 64]
  exact e 0
/-- the first sectors of a page, written -/
def wr (D : Dk.Disk) (p : Nat) (b : List Nat) : Nat → Dk.Disk
  | 0 => D
  | k + 1 => Dk.write (wr D p b k) (4 * p + k) (chunk b k)
def wE (D : Dk.Disk) (p : Nat) (q : List Nat) : Nat := if onD D p = 0 ∧ q.length ≤ 240 then 0 else 1
def wD (D : Dk.Disk) (p e : Nat) (q : List Nat) : Dk.Disk := if wE D p q = 0 then wr D p (put p e q) 4 else D
/-- what stands in the first sectors of a page -/
def rd (D : Dk.Disk) (p : Nat) : Nat → List Nat
  | 0 => []
  | k + 1 => rd D p k ++ Dk.bytesOf (Dk.at_ D.seen (4 * p + k))
def lost (D : Dk.Disk) (p : Nat) : Nat → Bool
  | 0 => false
  | k + 1 => lost D p k || (Dk.at_ D.seen (4 * p + k)).bad == 1
def rE (D : Dk.Disk) (p : Nat) : Nat := if onD D p = 0 then (if lost D p 4 then 12 else err p (rd D p 4)) else 1
def rN (D : Dk.Disk) (p : Nat) : Nat := if rE D p = 0 then epochOf p (rd D p 4) else 0
def rB (D : Dk.Disk) (p : Nat) : List Nat := if rE D p = 0 then bodyOf p (rd D p 4) else []
theorem wr_len (D : Dk.Disk) (p : Nat) (b : List Nat) : ∀ k, (wr D p b k).seen.length = D.seen.length
  | 0 => rfl
  | k + 1 => by rw [wr]; simp only [Dk.write, List.length_set]; exact wr_len D p b k
theorem wr_waits (D : Dk.Disk) (p : Nat) (b : List Nat) : ∀ k, (wr D p b k).waits.length = D.waits.length + k
  | 0 => rfl
  | k + 1 => by rw [wr]; simp only [Dk.write, List.length_append, List.length_singleton]; rw [wr_waits D p b k]; omega
theorem pad_full {b : List Nat} (h : b.length = 64) : Dk.pad b = b := by simp [Dk.pad, h]
theorem wr_at (D : Dk.Disk) (p : Nat) (b : List Nat) (hb : b.length = 256) : ∀ k, k ≤ 4 → 4 * p + 4 ≤ D.seen.length → ∀ n, Dk.at_ (wr D p b k).seen n = if 4 * p ≤ n ∧ n < 4 * p + k then ⟨chunk b (n - 4 * p), 0⟩ else Dk.at_ D.seen n
  | 0, _, _, n => by rw [if_neg (by omega)]; rfl
  | k + 1, hk, ho, n => by
    have ih := wr_at D p b hb k (by omega) ho n
    rw [wr]
    simp only [Dk.write, Dk.at_, List.getD_eq_getElem?_getD, List.getElem?_set]
    by_cases e : 4 * p + k = n
    · subst e
      rw [if_pos rfl, if_pos (by rw [wr_len]; omega), if_pos (by omega), Nat.add_sub_cancel_left, pad_full (chunk_length hb (by omega))]
      rfl
    · rw [if_neg e]
      simp only [Dk.at_, List.getD_eq_getElem?_getD] at ih
      rw [ih]
      by_cases h : 4 * p ≤ n ∧ n < 4 * p + k
      · rw [if_pos h, if_pos (by omega)]
      · rw [if_neg h, if_neg (by omega)]
theorem rd_same {D D' : Dk.Disk} {p : Nat} : ∀ k, (∀ i, i < k → Dk.at_ D'.seen (4 * p + i) = Dk.at_ D.seen (4 * p + i)) → rd D' p k = rd D p k ∧ lost D' p k = lost D p k
  | 0, _ => ⟨rfl, rfl⟩
  | k + 1, h => by
    have ih := rd_same (D := D) (D' := D') (p := p) k (fun i hi => h i (by omega))
    rw [rd, rd, lost, lost, ih.1, ih.2, h k (by omega)]
    exact ⟨rfl, rfl⟩
/-- pages whose sectors are as they were are read as they were -/
theorem r_same {D D' : Dk.Disk} {p : Nat} (hl : D'.seen.length = D.seen.length) (h : ∀ i, i < 4 → Dk.at_ D'.seen (4 * p + i) = Dk.at_ D.seen (4 * p + i)) : rE D' p = rE D p ∧ rN D' p = rN D p ∧ rB D' p = rB D p := by
  obtain ⟨h1, h2⟩ := rd_same (D := D) (D' := D') (p := p) 4 h
  have e : rE D' p = rE D p := by rw [rE, rE, onD, onD, hl, h1, h2]
  exact ⟨e, by rw [rN, rN, e, h1], by rw [rB, rB, e, h1]⟩
/-- sectors that hold a page's bytes -/
theorem r_holds {D : Dk.Disk} {p : Nat} {b : List Nat} (hb : b.length = 256) (h : ∀ i, i < 4 → Dk.at_ D.seen (4 * p + i) = ⟨chunk b i, 0⟩) : rd D p 4 = b ∧ lost D p 4 = false := by
  simp only [rd, lost, h 0 (by decide), h 1 (by decide), h 2 (by decide), h 3 (by decide), Dk.bytesOf]
  refine ⟨?_, by rfl⟩
  simp only [Nat.zero_ne_one, if_false, List.nil_append]
  exact chunks b hb
theorem r_put {D : Dk.Disk} {p e : Nat} {q : List Nat} (ho : onD D p = 0) (hp : p < 4294967296) (he : e < 4294967296) (hq : q.length ≤ 240) (h : ∀ i, i < 4 → Dk.at_ D.seen (4 * p + i) = ⟨chunk (put p e q) i, 0⟩) : rE D p = 0 ∧ rN D p = e ∧ rB D p = q := by
  obtain ⟨h1, h2⟩ := r_holds (put_length hq) h
  have e0 : rE D p = 0 := by rw [rE, if_pos ho, h2, h1, put_err hp he hq, if_pos rfl]; rfl
  have hg := put_get hp he hq
  exact ⟨e0, by rw [rN, if_pos e0, h1, hg.1], by rw [rB, if_pos e0, h1, hg.2]⟩
/-- what a write of a page leaves -/
theorem wD_ok {D : Dk.Disk} {p e : Nat} {q : List Nat} (h : wE D p q = 0) : (wD D p e q).seen.length = D.seen.length ∧ (wD D p e q).waits.length = D.waits.length + 4 ∧ ∀ n, Dk.at_ (wD D p e q).seen n = if 4 * p ≤ n ∧ n < 4 * p + 4 then ⟨chunk (put p e q) (n - 4 * p), 0⟩ else Dk.at_ D.seen n := by
  have hc : onD D p = 0 ∧ q.length ≤ 240 := by
    unfold wE at h
    split at h
    · assumption
    · cases h
  have ho : 4 * p + 4 ≤ D.seen.length := by
    have := hc.1
    unfold onD at this
    split at this
    · assumption
    · cases this
  rw [wD, if_pos h]
  exact ⟨wr_len _ _ _ 4, wr_waits _ _ _ 4, wr_at _ _ _ (put_length hc.2) 4 (Nat.le_refl _) ho⟩
theorem wD_len (D : Dk.Disk) (p e : Nat) (q : List Nat) : (wD D p e q).seen.length = D.seen.length := by
  unfold wD
  split
  · exact wr_len _ _ _ _
  · rfl
end Pg
end Go.Proofs.YtnffigfafalocaaGreatDoor
namespace Go.Proofs.YtnffigfafalocaaGreatDoor
open Go Go.RowKit
namespace Rt
theorem on_neg (sum : Nat) (a b : List Nat) : on sum (a ++ b) = neg (run (run (neg sum) a) b) := by rw [on, run_append]
theorem run_of_on {sum : Nat} {a b : List Nat} (ha : ∀ x ∈ a, x < 256) (hb : ∀ x ∈ b, x < 256) (h : on sum a = on sum b) : run (neg sum) a = run (neg sum) b :=
  neg_inj (run_lt _ (neg_lt sum) ha) (run_lt _ (neg_lt sum) hb) h
theorem unfour_inj {x y : List Nat} (hx : x.length = 4) (hy : y.length = 4) (lx : ∀ c ∈ x, c < 256) (ly : ∀ c ∈ y, c < 256) (r s : List Nat) (h : unfour (x ++ r) = unfour (y ++ s)) : x = y := by
  obtain ⟨a, b, c, d, rfl⟩ := list4 hx
  obtain ⟨a', b', c', d', rfl⟩ := list4 hy
  have l1 := lx a (by simp)
  have l2 := lx b (by simp)
  have l3 := lx c (by simp)
  have l4 := lx d (by simp)
  have m1 := ly a' (by simp)
  have m2 := ly b' (by simp)
  have m3 := ly c' (by simp)
  have m4 := ly d' (by simp)
  have h' : a + 256 * b + 65536 * c + 16777216 * d = a' + 256 * b' + 65536 * c' + 16777216 * d' := by
    simpa [unfour] using h
  have e1 : a = a' := by omega
  have e2 : b = b' := by omega
  have e3 : c = c' := by omega
  have e4 : d = d' := by omega
  rw [e1, e2, e3, e4]
end Rt
namespace Pg
theorem body_len {b : List Nat} (h : form b) : (body b).length = many b := by
  obtain ⟨h1, h2, _⟩ := h
  rw [body, List.length_take, List.length_drop]; omega
/-- in the part that is summed first -/
theorem turn_head {num : Nat} {A X Y B : List Nat} (hX : X.length = 4) (hY : Y.length = 4) (lu : ∀ x ∈ A ++ X ++ B, x < 256) (lv : ∀ x ∈ A ++ Y ++ B, x < 256) (hk : A.length + 4 ≤ 12) (hm : many (A ++ X ++ B) = many (A ++ Y ++ B))
    (hu : err num (A ++ X ++ B) = 0) {num' : Nat} (hv : err num' (A ++ Y ++ B) = 0) : X = Y := by
  have drops : ∀ (Z : List Nat), Z.length = 4 → ∀ n, A.length + 4 ≤ n → (A ++ Z ++ B).drop n = B.drop (n - (A.length + 4)) := fun Z hZ n hn => by
    rw [List.drop_append, List.length_append, hZ, List.drop_of_length_le (by simp; omega), List.nil_append]
  have takes : ∀ (Z : List Nat), Z.length = 4 → (A ++ Z ++ B).take 12 = A ++ Z ++ B.take (12 - (A.length + 4)) := fun Z hZ => by
    rw [List.take_append, List.length_append, hZ, List.take_of_length_le (by simp; omega)]
  have r : ∀ {n : Nat} {b : List Nat}, err n b = 0 → right b = told b := fun {n b} h => by
    unfold err at h
    split at h
    · split at h
      · cases h
      · rename_i h1; exact Classical.not_not.1 h1
    · cases h
  have ru := r hu
  have rv := r hv
  have ht : told (A ++ X ++ B) = told (A ++ Y ++ B) := by rw [told, told, drops X hX 12 hk, drops Y hY 12 hk]
  have hb : body (A ++ X ++ B) = body (A ++ Y ++ B) := by rw [body, body, drops X hX 16 (by omega), drops Y hY 16 (by omega), hm]
  rw [ht, ← rv, right, right, hb, takes X hX, takes Y hY, Rt.of, Rt.of] at ru
  have hA : ∀ x ∈ A, x < 256 := fun x hx => lu x (by simp [hx])
  have hXl : ∀ x ∈ X, x < 256 := fun x hx => lu x (by simp [hx])
  have hYl : ∀ x ∈ Y, x < 256 := fun x hx => lv x (by simp [hx])
  have hB : ∀ x ∈ B, x < 256 := fun x hx => lu x (by simp [hx])
  have hbd : ∀ x ∈ body (A ++ Y ++ B), x < 256 := fun x hx => lv x (List.mem_of_mem_drop (List.mem_of_mem_take hx))
  have j : ∀ Z : List Nat, (∀ x ∈ Z, x < 256) → Rt.on (Rt.on 0 (A ++ Z ++ B.take (12 - (A.length + 4)))) (body (A ++ Y ++ B)) = Rt.on 0 (A ++ Z ++ (B.take (12 - (A.length + 4)) ++ body (A ++ Y ++ B))) := fun Z hZ => by
    rw [Rt.on_append _ _ _ (by decide) (fun x hx => by
      rcases List.mem_append.1 hx with h | h
      · rcases List.mem_append.1 h with h | h
        · exact hA x h
        · exact hZ x h
      · exact hB x (List.mem_of_mem_take h)), List.append_assoc (A ++ Z)]
  rw [j X hXl, j Y hYl] at ru
  exact Rt.on_few (by omega) (by omega) hA hXl hYl (fun x hx => by
    rcases List.mem_append.1 hx with h | h
    · exact hB x (List.mem_of_mem_take h)
    · exact hbd x h) ru
theorem err_ok {num : Nat} {b : List Nat} (h : err num b = 0) : form b ∧ right b = told b := by
  unfold err at h
  split at h
  · rename_i hf
    split at h
    · cases h
    · rename_i h1; exact ⟨hf, Classical.not_not.1 h1⟩
  · cases h
/-- the sum itself -/
theorem turn_told {A X Y B : List Nat} (hA : A.length = 12) (hX : X.length = 4) (hY : Y.length = 4) (lu : ∀ x ∈ A ++ X ++ B, x < 256) (lv : ∀ x ∈ A ++ Y ++ B, x < 256) {num num' : Nat}
    (hu : err num (A ++ X ++ B) = 0) (hv : err num' (A ++ Y ++ B) = 0) : X = Y := by
  have d12 : ∀ Z : List Nat, (A ++ Z ++ B).drop 12 = Z ++ B := fun Z => by rw [List.append_assoc, ← hA, List.drop_left]
  have t12 : ∀ Z : List Nat, (A ++ Z ++ B).take 12 = A := fun Z => by rw [List.append_assoc, ← hA, List.take_left]
  have d16 : ∀ Z : List Nat, Z.length = 4 → (A ++ Z ++ B).drop 16 = B := fun Z hZ => by
    rw [show 16 = 12 + 4 from rfl, ← List.drop_drop, d12, ← hZ, List.drop_left]
  have d8 : ∀ Z : List Nat, many (A ++ Z ++ B) = Rt.unfour (A.drop 8 ++ (Z ++ B)) := fun Z => by
    rw [many, List.append_assoc, List.drop_append_of_le_length (by omega)]
  have m : many (A ++ X ++ B) = many (A ++ Y ++ B) := by
    obtain ⟨a, b, c, d, h4⟩ := Rt.list4 (l := A.drop 8) (by rw [List.length_drop]; omega)
    rw [d8, d8, h4]; rfl
  have ru := (err_ok hu).2
  have rv := (err_ok hv).2
  have hb : body (A ++ X ++ B) = body (A ++ Y ++ B) := by rw [body, body, d16 X hX, d16 Y hY, m]
  rw [right, t12, hb] at ru
  rw [right, t12] at rv
  have ht : told (A ++ X ++ B) = told (A ++ Y ++ B) := by rw [← ru, ← rv]
  rw [told, told, d12, d12] at ht
  exact Rt.unfour_inj hX hY (fun x hx => lu x (by simp [hx])) (fun x hx => lv x (by simp [hx])) B B ht
theorem nought_all {l : List Nat} (h : Rt.nought l = true) : l = List.replicate l.length 0 := by
  refine List.eq_replicate_iff.2 ⟨rfl, fun x hx => ?_⟩
  have := List.all_eq_true.1 h x hx
  simpa using this
/-- behind the sum -/
theorem turn_body {A X Y B : List Nat} (hA : 16 ≤ A.length) (hX : X.length = 4) (hY : Y.length = 4) (lu : ∀ x ∈ A ++ X ++ B, x < 256) (lv : ∀ x ∈ A ++ Y ++ B, x < 256) {num num' : Nat}
    (hu : err num (A ++ X ++ B) = 0) (hv : err num' (A ++ Y ++ B) = 0) : X = Y := by
  obtain ⟨fu, ru⟩ := err_ok hu
  obtain ⟨fv, rv⟩ := err_ok hv
  have d : ∀ (Z : List Nat) (n : Nat), n ≤ 16 → (A ++ Z ++ B).drop n = A.drop n ++ (Z ++ B) := fun Z n hn => by
    rw [List.append_assoc, List.drop_append_of_le_length (by omega)]
  have t : ∀ (Z : List Nat), (A ++ Z ++ B).take 12 = A.take 12 := fun Z => by rw [List.append_assoc, List.take_append_of_le_length (by omega)]
  have un : ∀ (n : Nat), n ≤ 12 → ∀ Z : List Nat, Rt.unfour ((A ++ Z ++ B).drop n) = Rt.unfour (A.drop n) := fun n hn Z => by
    rw [d Z n (by omega)]
    obtain ⟨a, b, c, e, h4⟩ := Rt.list4 (l := (A.drop n).take 4) (by rw [List.length_take, List.length_drop]; omega)
    rw [← List.take_append_drop 4 (A.drop n), h4]; rfl
  have m : many (A ++ X ++ B) = many (A ++ Y ++ B) := by rw [many, many, un 8 (by omega), un 8 (by omega)]
  have tl : told (A ++ X ++ B) = told (A ++ Y ++ B) := by rw [told, told, un 12 (by omega), un 12 (by omega)]
  have full : ∀ {b : List Nat}, form b → b.drop 16 = body b ++ List.replicate (240 - many b) 0 := fun {b} h => by
    conv => lhs; rw [← List.take_append_drop (many b) (b.drop 16)]
    rw [List.drop_drop, nought_all h.2.2, List.length_drop, h.1]
    rw [body, show 256 - (16 + many b) = 240 - many b by omega]
  have e1 := full fu
  have e2 := full fv
  rw [d X 16 (Nat.le_refl _)] at e1
  rw [d Y 16 (Nat.le_refl _)] at e2
  rw [right, t, tl, ← rv, right, t, Rt.of] at ru
  have lbu : ∀ x ∈ body (A ++ X ++ B), x < 256 := fun x hx => lu x (List.mem_of_mem_drop (List.mem_of_mem_take hx))
  have lbv : ∀ x ∈ body (A ++ Y ++ B), x < 256 := fun x hx => lv x (List.mem_of_mem_drop (List.mem_of_mem_take hx))
  have hr := Rt.run_of_on lbu lbv ru
  have hA16 : ∀ x ∈ A.drop 16, x < 256 := fun x hx => lu x (by simp [List.mem_of_mem_drop hx])
  have hXl : ∀ x ∈ X, x < 256 := fun x hx => lu x (by simp [hx])
  have hYl : ∀ x ∈ Y, x < 256 := fun x hx => lv x (by simp [hx])
  have hB : ∀ x ∈ B, x < 256 := fun x hx => lu x (by simp [hx])
  have all : Rt.on (Rt.on 0 (A.take 12)) (A.drop 16 ++ X ++ B) = Rt.on (Rt.on 0 (A.take 12)) (A.drop 16 ++ Y ++ B) := by
    have a1 : A.drop 16 ++ X ++ B = body (A ++ X ++ B) ++ List.replicate (240 - many (A ++ X ++ B)) 0 := (List.append_assoc _ _ _).trans e1
    have a2 : A.drop 16 ++ Y ++ B = body (A ++ Y ++ B) ++ List.replicate (240 - many (A ++ Y ++ B)) 0 := (List.append_assoc _ _ _).trans e2
    rw [a1, a2, Rt.on_neg, Rt.on_neg, hr, m]
  exact Rt.on_few (by omega) (by omega) hA16 hXl hYl hB all

/-- four bytes turned -/
def xor4 (X : List Nat) (z : Nat) : List Nat := (List.range 4).map fun i => X.getD i 0 ^^^ (z >>> (8 * i)) % 256
def turn (b : List Nat) (k z : Nat) : List Nat := b.take k ++ xor4 ((b.drop k).take 4) z ++ b.drop (k + 4)
theorem xor4_length (X : List Nat) (z : Nat) : (xor4 X z).length = 4 := by simp [xor4]
theorem xor4_lt {X : List Nat} (h : ∀ x ∈ X, x < 256) (z : Nat) : ∀ x ∈ xor4 X z, x < 256 := by
  intro x hx
  obtain ⟨i, _, rfl⟩ := List.mem_map.1 hx
  refine Nat.xor_lt_two_pow (n := 8) ?_ (Nat.mod_lt _ (by decide))
  rw [List.getD_eq_getElem?_getD]
  cases hq : X[i]? with
  | none => simp
  | some y => exact h y (List.mem_of_getElem? hq)
theorem xor4_same {X : List Nat} (h4 : X.length = 4) {z : Nat} (hz : z < 4294967296) (h : xor4 X z = X) : z = 0 := by
  obtain ⟨a, b, c, d, rfl⟩ := Rt.list4 h4
  have h' : [a ^^^ z >>> 0 % 256, b ^^^ z >>> 8 % 256, c ^^^ z >>> 16 % 256, d ^^^ z >>> 24 % 256] = [a, b, c, d] := h
  simp only [List.cons.injEq, and_true] at h'
  obtain ⟨e0, e1, e2, e3⟩ := h'
  have c0 : z >>> 0 % 256 = 0 := Rt.xor_cancel (a := a) (by rw [Nat.xor_zero]; exact e0)
  have c1 : z >>> 8 % 256 = 0 := Rt.xor_cancel (a := b) (by rw [Nat.xor_zero]; exact e1)
  have c2 : z >>> 16 % 256 = 0 := Rt.xor_cancel (a := c) (by rw [Nat.xor_zero]; exact e2)
  have c3 : z >>> 24 % 256 = 0 := Rt.xor_cancel (a := d) (by rw [Nat.xor_zero]; exact e3)
  simp only [Nat.shiftRight_eq_div_pow] at c0 c1 c2 c3
  omega
theorem split3 {b : List Nat} {k : Nat} : b = b.take k ++ (b.drop k).take 4 ++ b.drop (k + 4) := by
  rw [List.append_assoc, ← List.drop_drop, List.take_append_drop, List.take_append_drop]
theorem turn_length {b : List Nat} (hb : b.length = 256) {k : Nat} (hk : k ≤ 252) (z : Nat) : (turn b k z).length = 256 := by
  rw [turn, List.length_append, List.length_append, List.length_take, xor4_length, List.length_drop]; omega
theorem turn_lt {b : List Nat} (h : ∀ x ∈ b, x < 256) (k z : Nat) : ∀ x ∈ turn b k z, x < 256 := by
  intro x hx
  simp only [turn, List.mem_append] at hx
  rcases hx with (hx | hx) | hx
  · exact h x (List.mem_of_mem_take hx)
  · exact xor4_lt (fun y hy => h y (List.mem_of_mem_drop (List.mem_of_mem_take hy))) z x hx
  · exact h x (List.mem_of_mem_drop hx)
/-- the law: four neighbours turned -/
theorem turned {b : List Nat} (hb : b.length = 256) (lt : ∀ x ∈ b, x < 256) {num num' k z : Nat} (hk : k ≤ 252) (hz : z < 4294967296) (h0 : z ≠ 0) (hok : err num b = 0) (hk' : ¬ (8 < k ∧ k < 12) ∧ ¬ (12 < k ∧ k < 16)) (h : err num' (turn b k z) = 0) (hm : 4 < k → k < 12 → many (turn b k z) = many b) : False := by
  have h4 : ((b.drop k).take 4).length = 4 := by rw [List.length_take, List.length_drop]; omega
  have hne : (b.drop k).take 4 ≠ xor4 ((b.drop k).take 4) z := fun e => h0 (xor4_same h4 hz e.symm)
  have lt' := turn_lt lt k z
  have hl : (b.take k).length = k := by rw [List.length_take]; omega
  have hok' := hok
  have lt0 := lt
  rw [split3 (b := b) (k := k)] at hok' lt0
  rw [turn] at h lt'
  apply hne
  by_cases c1 : k ≤ 8
  · refine turn_head h4 (xor4_length _ _) lt0 lt' (by omega) ?_ hok' h
    by_cases c2 : 4 < k
    · rw [← split3]; exact (hm c2 (by omega)).symm
    · have d8 : ∀ Z : List Nat, Z.length = 4 → (b.take k ++ Z ++ b.drop (k + 4)).drop 8 = b.drop 8 := fun Z hZ => by
        rw [List.drop_append, List.length_append, hl, hZ, List.drop_of_length_le (by rw [List.length_append, hl, hZ]; omega), List.nil_append, List.drop_drop]
        congr 1; omega
      rw [many, many, d8 _ h4, d8 _ (xor4_length _ _)]
  · by_cases c2 : k = 12
    · subst c2
      exact turn_told hl h4 (xor4_length _ _) lt0 lt' hok' h
    · exact turn_body (by omega) h4 (xor4_length _ _) lt0 lt' hok' h
end Pg
end Go.Proofs.YtnffigfafalocaaGreatDoor
