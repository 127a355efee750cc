/-
  The plain mathematics of roots: numbers as four bytes, sums of bytes, a root's bytes. No program in sight.
-/
import Derived.Test.YtnjdcpbaippdlaaBase
import Derived.KernelRfl
namespace Go.Proofs.Ytnjdcpbaippdlaa
open Go Go.RowKit
namespace Rt

/-! ### four bytes -/
def four (n : Nat) : List Nat := [n % 256, n / 256 % 256, n / 65536 % 256, n / 16777216 % 256]
def unfour (b : List Nat) : Nat := b.getD 0 0 + 256 * b.getD 1 0 + 65536 * b.getD 2 0 + 16777216 * b.getD 3 0
theorem four_length (n : Nat) : (four n).length = 4 := rfl
theorem four_lt (n : Nat) : ∀ x ∈ four n, x < 256 := by
  intro x hx
  simp only [four, List.mem_cons, List.not_mem_nil, or_false] at hx
  omega
theorem unfour_four {n : Nat} (h : n < 4294967296) : unfour (four n) = n := by
  simp [unfour, four]; omega
theorem unfour_lt {b : List Nat} (h : ∀ x ∈ b, x < 256) : unfour b < 4294967296 := by
  have hb : ∀ i, b.getD i 0 < 256 := fun i => by
    rw [List.getD_eq_getElem?_getD]
    cases hq : b[i]? with
    | none => simp
    | some z => exact h z (List.mem_of_getElem? hq)
  have h0 := hb 0
  have h1 := hb 1
  have h2 := hb 2
  have h3 := hb 3
  unfold unfour; omega

/-! ### sums -/
def half1 (r : Nat) : Nat := if r % 2 = 1 then r / 2 ^^^ 3988292384 else r / 2
def halves : Nat → Nat → Nat
  | 0, r => r
  | k + 1, r => halves k (half1 r)
theorem halves_succ : ∀ (k r : Nat), halves (k + 1) r = half1 (halves k r)
  | 0, _ => rfl
  | k + 1, r => by rw [halves, halves_succ k, halves]
def tab (n : Nat) : Nat := halves 8 n
theorem half1_lt {r : Nat} (h : r < 4294967296) : half1 r < 4294967296 := by
  unfold half1
  split
  · exact Nat.xor_lt_two_pow (n := 32) (by omega) (by decide)
  · omega
theorem halves_lt : ∀ (k : Nat) {r : Nat}, r < 4294967296 → halves k r < 4294967296
  | 0, _, h => h
  | k + 1, _, h => halves_lt k (half1_lt h)
theorem tab_lt {n : Nat} (h : n < 256) : tab n < 4294967296 := halves_lt 8 (by omega)
def step (r c : Nat) : Nat := tab (r % 256 ^^^ c) ^^^ r / 256
def neg (r : Nat) : Nat := 4294967295 - r
def run (r : Nat) : List Nat → Nat
  | [] => r
  | c :: b => run (step r c) b
def on (sum : Nat) (b : List Nat) : Nat := neg (run (neg sum) b)
def of (b : List Nat) : Nat := on 0 b
theorem run_append : ∀ (a b : List Nat) (r : Nat), run r (a ++ b) = run (run r a) b
  | [], _, _ => rfl
  | c :: a, b, r => run_append a b (step r c)
theorem idx_lt {r c : Nat} (h : c < 256) : r % 256 ^^^ c < 256 := Nat.xor_lt_two_pow (n := 8) (by omega) h
theorem step_lt {r c : Nat} (hr : r < 4294967296) (hc : c < 256) : step r c < 4294967296 :=
  Nat.xor_lt_two_pow (n := 32) (tab_lt (idx_lt hc)) (by omega)
theorem run_lt : ∀ (b : List Nat) {r : Nat}, r < 4294967296 → (∀ x ∈ b, x < 256) → run r b < 4294967296
  | [], _, h, _ => h
  | c :: b, _, h, hb => run_lt b (step_lt h (hb c (by simp))) (fun x hx => hb x (by simp [hx]))
theorem neg_lt (r : Nat) : neg r < 4294967296 := by unfold neg; omega
theorem on_lt {sum : Nat} {b : List Nat} : on sum b < 4294967296 := neg_lt _
theorem of_lt {b : List Nat} : of b < 4294967296 := neg_lt _

/-- the highest bytes of the table are all unlike -/
def tops : List Nat := (List.range 256).map (fun i => tab i / 16777216)
theorem tops_nodup : tops.Nodup := of_decide_eq_true (by kernel_rfl)
theorem tops_inj {i j : Nat} (hi : i < 256) (hj : j < 256) (h : tab i / 16777216 = tab j / 16777216) : i = j := by
  have li : i < tops.length := by simp [tops]; exact hi
  have lj : j < tops.length := by simp [tops]; exact hj
  refine (List.getElem_inj (h₀ := li) (h₁ := lj) tops_nodup).1 ?_
  simpa [tops] using h
theorem xor_top {a b : Nat} (hb : b < 16777216) : (a ^^^ b) / 16777216 = a / 16777216 := by
  have e : (16777216 : Nat) = 2 ^ 24 := rfl
  rw [e] at hb ⊢
  rw [← Nat.shiftRight_eq_div_pow, ← Nat.shiftRight_eq_div_pow, Nat.shiftRight_xor_distrib, Nat.shiftRight_eq_div_pow b, Nat.div_eq_of_lt hb, Nat.xor_zero]
theorem xor_cancel {a b c : Nat} (h : a ^^^ b = a ^^^ c) : b = c := by
  have := congrArg (fun x => a ^^^ x) h
  simpa [← Nat.xor_assoc] using this
theorem step_idx {r r' c c' : Nat} (hr : r < 4294967296) (hr' : r' < 4294967296) (hc : c < 256) (hc' : c' < 256) (h : step r c = step r' c') : r % 256 ^^^ c = r' % 256 ^^^ c' := by
  refine tops_inj (idx_lt hc) (idx_lt hc') ?_
  have h1 := xor_top (a := tab (r % 256 ^^^ c)) (b := r / 256) (by omega)
  have h2 := xor_top (a := tab (r' % 256 ^^^ c')) (b := r' / 256) (by omega)
  rw [← h1, ← h2]
  exact congrArg (fun x => x / 16777216) h
theorem step_inj {r r' c : Nat} (hr : r < 4294967296) (hr' : r' < 4294967296) (hc : c < 256) (h : step r c = step r' c) : r = r' := by
  have hi := step_idx hr hr' hc hc h
  have h1 : r % 256 = r' % 256 := by
    rw [Nat.xor_comm, Nat.xor_comm (r' % 256)] at hi
    exact xor_cancel hi
  unfold step at h
  rw [hi] at h
  have h2 := xor_cancel h
  omega
theorem step_byte {r c c' : Nat} (hr : r < 4294967296) (hc : c < 256) (hc' : c' < 256) (h : step r c = step r c') : c = c' :=
  xor_cancel (step_idx hr hr hc hc' h)
theorem run_inj : ∀ (b : List Nat) {r r' : Nat}, r < 4294967296 → r' < 4294967296 → (∀ x ∈ b, x < 256) → run r b = run r' b → r = r'
  | [], _, _, _, _, _, h => h
  | c :: b, _, _, hr, hr', hb, h => by
    have hc := hb c (by simp)
    exact step_inj hr hr' hc (run_inj b (step_lt hr hc) (step_lt hr' hc) (fun x hx => hb x (by simp [hx])) h)
theorem neg_inj {a b : Nat} (ha : a < 4294967296) (hb : b < 4294967296) (h : neg a = neg b) : a = b := by unfold neg at h; omega
/-- one byte another one: another sum -/
theorem on_byte {sum : Nat} {a b : List Nat} {c c' : Nat} (ha : ∀ x ∈ a, x < 256) (hb : ∀ x ∈ b, x < 256) (hc : c < 256) (hc' : c' < 256) (h : on sum (a ++ c :: b) = on sum (a ++ c' :: b)) : c = c' := by
  have hr := run_lt a (neg_lt sum) ha
  unfold on at h
  rw [run_append, run_append] at h
  have h1 := neg_inj (run_lt _ hr (by intro x hx; rcases List.mem_cons.1 hx with rfl | hx; exact hc; exact hb x hx)) (run_lt _ hr (by intro x hx; rcases List.mem_cons.1 hx with rfl | hx; exact hc'; exact hb x hx)) h
  exact step_byte hr hc hc' (run_inj b (step_lt hr hc) (step_lt hr hc') hb h1)
theorem on_append (sum : Nat) (a b : List Nat) (_hs : sum < 4294967296) (ha : ∀ x ∈ a, x < 256) : on (on sum a) b = on sum (a ++ b) := by
  have hr := run_lt a (neg_lt sum) ha
  unfold on
  rw [run_append]
  congr 2
  unfold neg at hr ⊢; omega

/-! ### a root's bytes -/
structure Root where
  epoch : Nat
  first : Nat
  bytes : Nat
structure Root.Ok (r : Root) : Prop where
  epoch : r.epoch < 4294967296
  first : r.first < 4294967296
  bytes : r.bytes < 4294967296
def mark : List Nat := [82, 79, 79, 84]
def head (r : Root) : List Nat := mark ++ four r.epoch ++ four r.first ++ four r.bytes
def put (r : Root) : List Nat := head r ++ four (of (head r)) ++ List.replicate 44 0
theorem head_length (r : Root) : (head r).length = 16 := rfl
theorem put_length (r : Root) : (put r).length = 64 := rfl
theorem head_lt (r : Root) : ∀ x ∈ head r, x < 256 := by
  intro x hx
  simp only [head, List.mem_append] at hx
  rcases hx with ((h | h) | h) | h
  · simp only [mark, List.mem_cons, List.not_mem_nil, or_false] at h; omega
  · exact four_lt _ x h
  · exact four_lt _ x h
  · exact four_lt _ x h
theorem put_lt (r : Root) : ∀ x ∈ put r, x < 256 := by
  intro x hx
  simp only [put, List.mem_append] at hx
  rcases hx with (h | h) | h
  · exact head_lt r x h
  · exact four_lt _ x h
  · have := (List.mem_replicate.1 h).2; omega

/-- what Get says of bytes: 0 and the root, or an error: 4 (form), 11 (sum) -/
def nought (b : List Nat) : Bool := b.all (· == 0)
def errOf (b : List Nat) : Nat := if b.length = 64 ∧ b.take 4 = mark ∧ nought (b.drop 20) = true then (if of (b.take 16) = unfour ((b.drop 16).take 4) then 0 else 11) else 4
def rootOf (b : List Nat) : Root := if errOf b = 0 then ⟨unfour ((b.drop 4).take 4), unfour ((b.drop 8).take 4), unfour ((b.drop 12).take 4)⟩ else ⟨0, 0, 0⟩
theorem put_err (r : Root) : errOf (put r) = 0 := by
  have h1 : (put r).take 4 = mark := rfl
  have h2 : nought ((put r).drop 20) = true := rfl
  have h3 : (put r).take 16 = head r := rfl
  have h4 : ((put r).drop 16).take 4 = four (of (head r)) := rfl
  rw [errOf, if_pos ⟨put_length r, h1, h2⟩, h3, h4, unfour_four of_lt, if_pos rfl]
theorem put_root {r : Root} (h : r.Ok) : rootOf (put r) = r := by
  rw [rootOf, if_pos (put_err r)]
  have h1 : ((put r).drop 4).take 4 = four r.epoch := rfl
  have h2 : ((put r).drop 8).take 4 = four r.first := rfl
  have h3 : ((put r).drop 12).take 4 = four r.bytes := rfl
  rw [h1, h2, h3, unfour_four h.epoch, unfour_four h.first, unfour_four h.bytes]

/-! ### one byte turned -/
theorem set_split {α : Type} (l : List α) (p : Nat) (v : α) (h : p < l.length) : l.set p v = l.take p ++ v :: l.drop (p + 1) := by
  rw [List.set_eq_take_append_cons_drop, if_pos h]
theorem self_split {α : Type} (l : List α) (p : Nat) (h : p < l.length) : l = l.take p ++ l[p] :: l.drop (p + 1) := by
  conv => lhs; rw [← List.take_append_drop p l, List.drop_eq_getElem_cons h]
theorem on_set {sum : Nat} {l : List Nat} {p v : Nat} (hl : ∀ x ∈ l, x < 256) (hp : p < l.length) (hv : v < 256) (hne : v ≠ l.getD p 0) : on sum (l.set p v) ≠ on sum l := by
  intro h
  have hc : l[p] = l.getD p 0 := by rw [List.getD_eq_getElem?_getD, List.getElem?_eq_getElem hp]; rfl
  rw [set_split l p v hp] at h
  conv at h => rhs; rw [self_split l p hp]
  have := on_byte (fun x hx => hl x (List.mem_of_mem_take hx)) (fun x hx => hl x (List.mem_of_mem_drop hx)) hv (hl _ (List.getElem_mem hp)) h
  exact hne (this.trans hc)
theorem unfour_set {l : List Nat} {j v : Nat} (hl : l.length = 4) (hj : j < 4) (hne : v ≠ l.getD j 0) : unfour (l.set j v) ≠ unfour l := by
  match l, hl with
  | [a, b, c, d], _ =>
    have : j = 0 ∨ j = 1 ∨ j = 2 ∨ j = 3 := by omega
    rcases this with rfl | rfl | rfl | rfl <;> simp [unfour] at hne ⊢ <;> omega
theorem nought_set {l : List Nat} {j v : Nat} (hj : j < l.length) (hv : v ≠ 0) : nought (l.set j v) = false := by
  unfold nought
  rw [List.all_eq_false]
  exact ⟨v, List.mem_of_getElem? (i := j) (by rw [List.getElem?_set_self hj]), by simpa using hv⟩
theorem turned_err (r : Root) {p v : Nat} (hp : p < 64) (hv : v < 256) (hne : v ≠ (put r).getD p 0) : errOf ((put r).set p v) = 4 ∨ errOf ((put r).set p v) = 11 := by
  have hlen : ((put r).set p v).length = 64 := by rw [List.length_set]; rfl
  by_cases h1 : p < 4
  · left
    have h2 : ((put r).set p v).take 4 ≠ mark := by
      have e : ((put r).set p v).take 4 = mark.set p v := by rw [List.take_set]; rfl
      rw [e]
      intro h
      have h3 : (mark.set p v)[p]? = mark[p]? := by rw [h]
      rw [List.getElem?_set_self (by show p < 4; exact h1)] at h3
      have h4 : (put r).getD p 0 = mark.getD p 0 := by
        have : p = 0 ∨ p = 1 ∨ p = 2 ∨ p = 3 := by omega
        rcases this with rfl | rfl | rfl | rfl <;> rfl
      apply hne
      rw [h4, List.getD_eq_getElem?_getD, ← h3]; rfl
    rw [errOf, if_neg (fun h => h2 h.2.1)]
  · by_cases h2 : 20 ≤ p
    · left
      have h3 : nought (((put r).set p v).drop 20) = false := by
        have e : ((put r).set p v).drop 20 = (List.replicate 44 0).set (p - 20) v := by
          rw [List.drop_set, if_neg (by omega)]; rfl
        rw [e]
        refine nought_set (by rw [List.length_replicate]; omega) (fun h => hne ?_)
        rw [h]
        have e2 : (put r).getD p 0 = (List.replicate 44 0).getD (p - 20) 0 := by
          have e3 : (put r).drop 20 = List.replicate 44 0 := rfl
          rw [← e3, List.getD_eq_getElem?_getD, List.getD_eq_getElem?_getD, List.getElem?_drop]
          congr 2; omega
        rw [e2, List.getD_eq_getElem?_getD, List.getElem?_replicate]
        simp [show p - 20 < 44 by omega]
      rw [errOf, if_neg (fun h => by rw [h3] at h; exact absurd h.2.2 (by decide))]
    · right
      have h4 : ((put r).set p v).take 4 = mark := by rw [List.take_set_of_le (by omega)]; rfl
      have h5 : nought (((put r).set p v).drop 20) = true := by rw [List.drop_set_of_lt (by omega)]; rfl
      rw [errOf, if_pos ⟨hlen, h4, h5⟩]
      by_cases h6 : p < 16
      · have e1 : ((put r).set p v).take 16 = (head r).set p v := by rw [List.take_set]; rfl
        have e2 : (((put r).set p v).drop 16).take 4 = four (of (head r)) := by rw [List.drop_set_of_lt h6]; rfl
        have e3 : (put r).getD p 0 = (head r).getD p 0 := by
          have e4 : (put r).take 16 = head r := rfl
          rw [← e4, List.getD_eq_getElem?_getD, List.getD_eq_getElem?_getD, List.getElem?_take_of_lt h6]
        have h8 : ¬ of ((head r).set p v) = of (head r) := on_set (sum := 0) (head_lt r) h6 hv (by rw [← e3]; exact hne)
        rw [e1, e2, unfour_four of_lt, if_neg h8]
      · have e1 : ((put r).set p v).take 16 = head r := by rw [List.take_set_of_le (by omega)]; rfl
        have e2 : (((put r).set p v).drop 16).take 4 = (four (of (head r))).set (p - 16) v := by
          rw [List.drop_set, if_neg (by omega), List.take_set]; rfl
        have e3 : (put r).getD p 0 = (four (of (head r))).getD (p - 16) 0 := by
          have e4 : ((put r).drop 16).take 4 = four (of (head r)) := rfl
          rw [← e4, List.getD_eq_getElem?_getD, List.getD_eq_getElem?_getD, List.getElem?_take_of_lt (by omega), List.getElem?_drop]
          congr 2; omega
        have h7 := unfour_set (l := four (of (head r))) (j := p - 16) (v := v) rfl (by omega) (by rw [← e3]; exact hne)
        rw [e1, e2, if_neg (fun h => h7 (by rw [← h, unfour_four of_lt]))]
theorem turned_root (r : Root) {p v : Nat} (hp : p < 64) (hv : v < 256) (hne : v ≠ (put r).getD p 0) : rootOf ((put r).set p v) = ⟨0, 0, 0⟩ := by
  have := turned_err r hp hv hne
  rw [rootOf, if_neg (by omega)]
end Rt
end Go.Proofs.Ytnjdcpbaippdlaa
