/-
  The plain mathematics of pages (chapter 14): a page's bytes, what is got of bytes, sums that tell four neighbours. No program in sight.
-/
import Derived.Test.YtakjbdeemifnmaaDoorNm
namespace Go.Proofs.YtakjbdeemifnmaaDoor
open Go Go.RowKit
namespace Rt
/-! ### four neighbours -/
theorem xor_shift {a b : Nat} (k : Nat) : (a ^^^ b) / 2 ^ k = a / 2 ^ k ^^^ b / 2 ^ k := by
  rw [← Nat.shiftRight_eq_div_pow, ← Nat.shiftRight_eq_div_pow, ← Nat.shiftRight_eq_div_pow, Nat.shiftRight_xor_distrib]
theorem step_top {r c : Nat} (hr : r < 4294967296) : step r c / 16777216 = tab (r % 256 ^^^ c) / 16777216 := xor_top (by omega)
theorem step_hi {r r' c c' : Nat} (k : Nat) (hi : r % 256 ^^^ c = r' % 256 ^^^ c') (h : step r c / 2 ^ k = step r' c' / 2 ^ k) : r / 256 / 2 ^ k = r' / 256 / 2 ^ k := by
  unfold step at h
  rw [hi, xor_shift, xor_shift] at h
  exact xor_cancel h
theorem run4_inj {r a b c d a' b' c' d' : Nat} (hr : r < 4294967296) (ha : a < 256) (hb : b < 256) (hc : c < 256) (hd : d < 256) (ha' : a' < 256) (hb' : b' < 256) (hc' : c' < 256) (hd' : d' < 256)
    (h : run r [a, b, c, d] = run r [a', b', c', d']) : [a, b, c, d] = [a', b', c', d'] := by
  simp only [run] at h
  have r1 := step_lt hr ha
  have r1' := step_lt hr ha'
  have r2 := step_lt r1 hb
  have r2' := step_lt r1' hb'
  have r3 := step_lt r2 hc
  have r3' := step_lt r2' hc'
  have i3 := step_idx r3 r3' hd hd' h
  have q3 := step_hi 0 i3 (by rw [h])
  rw [Nat.pow_zero, Nat.div_one, Nat.div_one] at q3
  have i2 : step (step r a) b % 256 ^^^ c = step (step r a') b' % 256 ^^^ c' := by
    refine tops_inj (idx_lt hc) (idx_lt hc') ?_
    rw [← step_top r2, ← step_top r2']
    omega
  have q2 := step_hi 8 i2 (by show _ / 256 = _ / 256; exact q3)
  have i1 : step r a % 256 ^^^ b = step r a' % 256 ^^^ b' := by
    refine tops_inj (idx_lt hb) (idx_lt hb') ?_
    rw [← step_top r1, ← step_top r1']
    have : step (step r a) b / 256 / 256 = step (step r a') b' / 256 / 256 := q2
    omega
  have q1 := step_hi 16 i1 (by
    show _ / 65536 = _ / 65536
    have : step (step r a) b / 256 / 256 = step (step r a') b' / 256 / 256 := q2
    omega)
  have i0 : r % 256 ^^^ a = r % 256 ^^^ a' := by
    refine tops_inj (idx_lt ha) (idx_lt ha') ?_
    rw [← step_top hr, ← step_top hr]
    have : step r a / 256 / 65536 = step r a' / 256 / 65536 := q1
    omega
  have e0 := xor_cancel i0
  subst e0
  have e1 := xor_cancel i1
  subst e1
  have e2 := xor_cancel i2
  subst e2
  have e3 := xor_cancel i3
  subst e3
  rfl
theorem list4 {l : List Nat} (h : l.length = 4) : ∃ a b c d, l = [a, b, c, d] := by
  match l, h with
  | [a, b, c, d], _ => exact ⟨a, b, c, d, rfl⟩
/-- up to four neighbours other ones: another register -/
theorem run_few {r : Nat} {x y : List Nat} (hr : r < 4294967296) (hxy : x.length = y.length) (h4 : x.length ≤ 4) (hx : ∀ c ∈ x, c < 256) (hy : ∀ c ∈ y, c < 256) (h : run r x = run r y) : x = y := by
  have h1 : run r (x ++ List.replicate (4 - x.length) 0) = run r (y ++ List.replicate (4 - x.length) 0) := by rw [run_append, run_append, h]
  obtain ⟨a, b, c, d, e⟩ := list4 (l := x ++ List.replicate (4 - x.length) 0) (by simp; omega)
  obtain ⟨a', b', c', d', e'⟩ := list4 (l := y ++ List.replicate (4 - x.length) 0) (by simp; omega)
  have hx' : ∀ q ∈ x ++ List.replicate (4 - x.length) 0, q < 256 := fun q hq => by
    rcases List.mem_append.1 hq with h | h
    · exact hx q h
    · rw [(List.mem_replicate.1 h).2]; decide
  have hy' : ∀ q ∈ y ++ List.replicate (4 - x.length) 0, q < 256 := fun q hq => by
    rcases List.mem_append.1 hq with h | h
    · exact hy q h
    · rw [(List.mem_replicate.1 h).2]; decide
  rw [e] at hx' h1
  rw [e'] at hy' h1
  have h2 := run4_inj hr (hx' a (by simp)) (hx' b (by simp)) (hx' c (by simp)) (hx' d (by simp)) (hy' a' (by simp)) (hy' b' (by simp)) (hy' c' (by simp)) (hy' d' (by simp)) h1
  rw [← e, ← e'] at h2
  exact (List.append_inj h2 hxy).1
/-- .. another sum -/
theorem on_few {sum : Nat} {a x y b : List Nat} (hxy : x.length = y.length) (h4 : x.length ≤ 4) (ha : ∀ c ∈ a, c < 256) (hx : ∀ c ∈ x, c < 256) (hy : ∀ c ∈ y, c < 256) (hb : ∀ c ∈ b, c < 256) (h : on sum (a ++ x ++ b) = on sum (a ++ y ++ b)) : x = y := by
  have hr := run_lt a (neg_lt sum) ha
  unfold on at h
  rw [run_append, run_append, run_append, run_append] at h
  have h1 := neg_inj (run_lt _ (run_lt _ hr hx) hb) (run_lt _ (run_lt _ hr hy) hb) h
  exact run_few hr hxy h4 hx hy (run_inj b (run_lt _ hr hx) (run_lt _ hr hy) hb h1)
end Rt

namespace Pg
/-- a page's bytes -/
def head (num epoch : Nat) (body : List Nat) : List Nat := Rt.four num ++ Rt.four epoch ++ Rt.four body.length
def sum (num epoch : Nat) (body : List Nat) : Nat := Rt.on (Rt.of (head num epoch body)) body
def put (num epoch : Nat) (body : List Nat) : List Nat := head num epoch body ++ Rt.four (sum num epoch body) ++ body ++ List.replicate (240 - body.length) 0
theorem head_length (num epoch : Nat) (body : List Nat) : (head num epoch body).length = 12 := rfl
theorem sum_lt (num epoch : Nat) (body : List Nat) : sum num epoch body < 4294967296 := Rt.on_lt
theorem put_length {num epoch : Nat} {body : List Nat} (h : body.length ≤ 240) : (put num epoch body).length = 256 := by
  simp only [put, List.length_append, head_length, Rt.four_length, List.length_replicate]; omega
theorem head_lt (num epoch : Nat) (body : List Nat) : ∀ x ∈ head num epoch body, x < 256 := by
  intro x hx
  simp only [head, List.mem_append] at hx
  rcases hx with (h | h) | h <;> exact Rt.four_lt _ x h
theorem put_lt {num epoch : Nat} {body : List Nat} (hb : ∀ x ∈ body, x < 256) : ∀ x ∈ put num epoch body, x < 256 := by
  intro x hx
  simp only [put, List.mem_append] at hx
  rcases hx with ((h | h) | h) | h
  · exact head_lt _ _ _ x h
  · exact Rt.four_lt _ x h
  · exact hb x h
  · rw [(List.mem_replicate.1 h).2]; decide

/-- what Get says of bytes -/
def many (b : List Nat) : Nat := Rt.unfour (b.drop 8)
def body (b : List Nat) : List Nat := (b.drop 16).take (many b)
def told (b : List Nat) : Nat := Rt.unfour (b.drop 12)
def right (b : List Nat) : Nat := Rt.on (Rt.of (b.take 12)) (body b)
def form (b : List Nat) : Prop := b.length = 256 ∧ many b ≤ 240 ∧ Rt.nought (b.drop (16 + many b)) = true
instance (b : List Nat) : Decidable (form b) := by unfold form; infer_instance
def err (num : Nat) (b : List Nat) : Nat := if form b then (if right b ≠ told b then 11 else if Rt.unfour b ≠ num then 4 else 0) else 4
def epochOf (num : Nat) (b : List Nat) : Nat := if err num b = 0 then Rt.unfour (b.drop 4) else 0
def bodyOf (num : Nat) (b : List Nat) : List Nat := if err num b = 0 then body b else []

theorem body_len0 {b : List Nat} (h : form b) : (body b).length = many b := by
  obtain ⟨h1, h2, _⟩ := h
  rw [body, List.length_take, List.length_drop]; omega
theorem put_parts {num epoch : Nat} (hn : num < 4294967296) (he : epoch < 4294967296) {q : List Nat} (hq : q.length ≤ 240) :
    many (put num epoch q) = q.length ∧ body (put num epoch q) = q ∧ told (put num epoch q) = sum num epoch q ∧ (put num epoch q).take 12 = head num epoch q ∧ Rt.unfour (put num epoch q) = num ∧ Rt.unfour ((put num epoch q).drop 4) = epoch ∧ form (put num epoch q) := by
  have e8 : (put num epoch q).drop 8 = Rt.four q.length ++ (Rt.four (sum num epoch q) ++ (q ++ List.replicate (240 - q.length) 0)) := by
    simp only [put, head, List.append_assoc]; rfl
  have e12 : (put num epoch q).drop 12 = Rt.four (sum num epoch q) ++ (q ++ List.replicate (240 - q.length) 0) := by
    simp only [put, head, List.append_assoc]; rfl
  have e16 : (put num epoch q).drop 16 = q ++ List.replicate (240 - q.length) 0 := by
    simp only [put, head, List.append_assoc]; rfl
  have e4 : (put num epoch q).drop 4 = Rt.four epoch ++ (Rt.four q.length ++ (Rt.four (sum num epoch q) ++ (q ++ List.replicate (240 - q.length) 0))) := by
    simp only [put, head, List.append_assoc]; rfl
  have e0 : put num epoch q = Rt.four num ++ (Rt.four epoch ++ (Rt.four q.length ++ (Rt.four (sum num epoch q) ++ (q ++ List.replicate (240 - q.length) 0)))) := by
    simp only [put, head, List.append_assoc]
  have hm : many (put num epoch q) = q.length := by rw [many, e8, Nm.unfour_app (by omega)]
  have hb : body (put num epoch q) = q := by rw [body, hm, e16, List.take_left]
  refine ⟨hm, hb, by rw [told, e12, Nm.unfour_app (sum_lt _ _ _)], ?_, by rw [e0, Nm.unfour_app hn], by rw [e4, Nm.unfour_app he], put_length hq, by rw [hm]; exact hq, ?_⟩
  · simp only [put, List.append_assoc]; rfl
  · rw [hm, ← List.drop_drop, e16, List.drop_left]
    simp [Rt.nought]
theorem put_err {num epoch : Nat} (hn : num < 4294967296) (he : epoch < 4294967296) {q : List Nat} (hq : q.length ≤ 240) (other : Nat) : err other (put num epoch q) = if other = num then 0 else 4 := by
  obtain ⟨hm, hb, ht, h12, h0, h4, hf⟩ := put_parts hn he hq
  have hr : right (put num epoch q) = told (put num epoch q) := by rw [right, h12, hb, ht, sum]
  rw [err, if_pos hf, if_neg (fun h => h hr), h0]
  by_cases h : other = num
  · rw [if_neg (fun h' => h' h.symm), if_pos h]
  · rw [if_pos (fun h' => h h'.symm), if_neg h]
theorem put_get {num epoch : Nat} (hn : num < 4294967296) (he : epoch < 4294967296) {q : List Nat} (hq : q.length ≤ 240) : epochOf num (put num epoch q) = epoch ∧ bodyOf num (put num epoch q) = q := by
  obtain ⟨hm, hb, ht, h12, h0, h4, hf⟩ := put_parts hn he hq
  have h := put_err hn he hq num
  rw [if_pos rfl] at h
  exact ⟨by rw [epochOf, if_pos h, h4], by rw [bodyOf, if_pos h, hb]⟩
theorem err_length {num : Nat} {b : List Nat} (h : b.length ≠ 256) : err num b = 4 := by
  rw [err, if_neg (fun hf => h hf.1)]
theorem err_no {num : Nat} {b : List Nat} (h : err num b ≠ 0) : epochOf num b = 0 ∧ bodyOf num b = [] := ⟨by rw [epochOf, if_neg h], by rw [bodyOf, if_neg h]⟩
theorem err_kinds (num : Nat) (b : List Nat) : err num b = 0 ∨ err num b = 4 ∨ err num b = 11 := by
  unfold err
  split
  · split
    · simp
    · split <;> simp
  · simp
end Pg
end Go.Proofs.YtakjbdeemifnmaaDoor
