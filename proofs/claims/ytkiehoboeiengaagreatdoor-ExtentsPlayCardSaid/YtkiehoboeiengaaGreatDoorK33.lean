/-
  The plain mathematics of pages (chapter 14): a page's bytes, what is got of bytes, sums that tell four neighbours. No program in sight.
  slices.Grow of nil and slices.Concat of two, by their own text.
-/
import Derived.Test.YtkiehoboeiengaaGreatDoorK20
namespace Go.Proofs.YtkiehoboeiengaaGreatDoor
open Go Go.RowKit
namespace Rt
/-! ### four neighbours -/
theorem xor_shift {a b : Nat} (k : Nat) : (a ^^^ b) / 2 ^ k = a / 2 ^ k ^^^ b / 2 ^ k := by
  rw [← Nat.shiftRight_eq_div_pow, ← Nat.shiftRight_eq_div_pow, ← Nat.shiftRight_eq_div_pow, Nat.shiftRight_xor_distrib]
theorem step_top {r c : Nat} (hr : r < 4294967296) : step r c / 16777216 = tab (r % 256 ^^^ c) / 16777216 := xor_top (by omega)
theorem step_hi {r r' c c' : Nat} (k : Nat) (hi : r % 256 ^^^ c = r' % 256 ^^^ c') (h : step r c / 2 ^ k = step r' c' / 2 ^ k) : r / 256 / 2 ^ k = r' / 256 / 2 ^ k := by
  unfold step at h
  rw [hi, xor_shift, xor_shift] at h
  exact xor_cancel h
theorem run4_inj {r a b c d a' b' c' d' : Nat} (hr : r < 4294967296) (ha : a < 256) (hb : b < 256) (hc : c < 256) (hd : d < 256) (ha' : a' < 256) (hb' : b' < 256) (hc' : c' < 256) (hd' : d' < 256)
    (h : run r [a, b, c, d] = run r [a', b', c', d']) : [a, b, c, d] = [a', b', c', d'] := by
  simp only [run] at h
  have r1 := step_lt hr ha
  have r1' := step_lt hr ha'
  have r2 := step_lt r1 hb
  have r2' := step_lt r1' hb'
  have r3 := step_lt r2 hc
  have r3' := step_lt r2' hc'
  have i3 := step_idx r3 r3' hd hd' h
  have q3 := step_hi 0 i3 (by rw [h])
  rw [Nat.pow_zero, Nat.div_one, Nat.div_one] at q3
  have i2 : step (step r a) b % 256 ^^^ c = step (step r a') b' % 256 ^^^ c' := by
    refine tops_inj (idx_lt hc) (idx_lt hc') ?_
    rw [← step_top r2, ← step_top r2']
    omega
  have q2 := step_hi 8 i2 (by show _ / 256 = _ / 256; exact q3)
  have i1 : step r a % 256 ^^^ b = step r a' % 256 ^^^ b' := by
    refine tops_inj (idx_lt hb) (idx_lt hb') ?_
    rw [← step_top r1, ← step_top r1']
    have : step (step r a) b / 256 / 256 = step (step r a') b' / 256 / 256 := q2
    omega
  have q1 := step_hi 16 i1 (by
    show _ / 65536 = _ / 65536
    have : step (step r a) b / 256 / 256 = step (step r a') b' / 256 / 256 := q2
    omega)
  have i0 : r % 256 ^^^ a = r % 256 ^^^ a' := by
    refine tops_inj (idx_lt ha) (idx_lt ha') ?_
    rw [← step_top hr, ← step_top hr]
    have : step r a / 256 / 65536 = step r a' / 256 / 65536 := q1
    omega
  have e0 := xor_cancel i0
  subst e0
  have e1 := xor_cancel i1
  subst e1
  have e2 := xor_cancel i2
  subst e2
  have e3 := xor_cancel i3
  subst e3
  rfl
theorem list4 {l : List Nat} (h : l.length = 4) : ∃ a b c d, l = [a, b, c, d] := by
  match l, h with
  | [a, b, c, d], _ => exact ⟨a, b, c, d, rfl⟩
/-- up to four neighbours other ones: another register -/
theorem run_few {r : Nat} {x y : List Nat} (hr : r < 4294967296) (hxy : x.length = y.length) (h4 : x.length ≤ 4) (hx : ∀ c ∈ x, c < 256) (hy : ∀ c ∈ y, c < 256) (h : run r x = run r y) : x = y := by
  have h1 : run r (x ++ List.replicate (4 - x.length) 0) = run r (y ++ List.replicate (4 - x.length) 0) := by rw [run_append, run_append, h]
  obtain ⟨a, b, c, d, e⟩ := list4 (l := x ++ List.replicate (4 - x.length) 0) (by simp; omega)
  obtain ⟨a', b', c', d', e'⟩ := list4 (l := y ++ List.replicate (4 - x.length) 0) (by simp; omega)
  have hx' : ∀ q ∈ x ++ List.replicate (4 - x.length) 0, q < 256 := fun q hq => by
    rcases List.mem_append.1 hq with h | h
    · exact hx q h
    · rw [(List.mem_replicate.1 h).2]; decide
  have hy' : ∀ q ∈ y ++ List.replicate (4 - x.length) 0, q < 256 := fun q hq => by
    rcases List.mem_append.1 hq with h | h
    · exact hy q h
    · rw [(List.mem_replicate.1 h).2]; decide
  rw [e] at hx' h1
  rw [e'] at hy' h1
  have h2 := run4_inj hr (hx' a (by simp)) (hx' b (by simp)) (hx' c (by simp)) (hx' d (by simp)) (hy' a' (by simp)) (hy' b' (by simp)) (hy' c' (by simp)) (hy' d' (by simp)) h1
  rw [← e, ← e'] at h2
  exact (List.append_inj h2 hxy).1
/-- .. another sum -/
theorem on_few {sum : Nat} {a x y b : List Nat} (hxy : x.length = y.length) (h4 : x.length ≤ 4) (ha : ∀ c ∈ a, c < 256) (hx : ∀ c ∈ x, c < 256) (hy : ∀ c ∈ y, c < 256) (hb : ∀ c ∈ b, c < 256) (h : on sum (a ++ x ++ b) = on sum (a ++ y ++ b)) : x = y := by
  have hr := run_lt a (neg_lt sum) ha
  unfold on at h
  rw [run_append, run_append, run_append, run_append] at h
  have h1 := neg_inj (run_lt _ (run_lt _ hr hx) hb) (run_lt _ (run_lt _ hr hy) hb) h
  exact run_few hr hxy h4 hx hy (run_inj b (run_lt _ hr hx) (run_lt _ hr hy) hb h1)
end Rt

namespace Pg
/-- a page's bytes -/
def head (num epoch : Nat) (body : List Nat) : List Nat := Rt.four num ++ Rt.four epoch ++ Rt.four body.length
def sum (num epoch : Nat) (body : List Nat) : Nat := Rt.on (Rt.of (head num epoch body)) body
def put (num epoch : Nat) (body : List Nat) : List Nat := head num epoch body ++ Rt.four (sum num epoch body) ++ body ++ List.replicate (240 - body.length) 0
theorem head_length (num epoch : Nat) (body : List Nat) : (head num epoch body).length = 12 := rfl
theorem sum_lt (num epoch : Nat) (body : List Nat) : sum num epoch body < 4294967296 := Rt.on_lt
theorem put_length {num epoch : Nat} {body : List Nat} (h : body.length ≤ 240) : (put num epoch body).length = 256 := by
  simp only [put, List.length_append, head_length, Rt.four_length, List.length_replicate]; omega
theorem head_lt (num epoch : Nat) (body : List Nat) : ∀ x ∈ head num epoch body, x < 256 := by
  intro x hx
  simp only [head, List.mem_append] at hx
  rcases hx with (h | h) | h <;> exact Rt.four_lt _ x h
theorem put_lt {num epoch : Nat} {body : List Nat} (hb : ∀ x ∈ body, x < 256) : ∀ x ∈ put num epoch body, x < 256 := by
  intro x hx
  simp only [put, List.mem_append] at hx
  rcases hx with ((h | h) | h) | h
  · exact head_lt _ _ _ x h
  · exact Rt.four_lt _ x h
  · exact hb x h
  · rw [(List.mem_replicate.1 h).2]; decide

/-- what Get says of bytes -/
def many (b : List Nat) : Nat := Rt.unfour (b.drop 8)
def body (b : List Nat) : List Nat := (b.drop 16).take (many b)
def told (b : List Nat) : Nat := Rt.unfour (b.drop 12)
def right (b : List Nat) : Nat := Rt.on (Rt.of (b.take 12)) (body b)
def form (b : List Nat) : Prop := b.length = 256 ∧ many b ≤ 240 ∧ Rt.nought (b.drop (16 + many b)) = true
instance (b : List Nat) : Decidable (form b) := by unfold form; infer_instance
def err (num : Nat) (b : List Nat) : Nat := if form b then (if right b ≠ told b then 11 else if Rt.unfour b ≠ num then 4 else 0) else 4
def epochOf (num : Nat) (b : List Nat) : Nat := if err num b = 0 then Rt.unfour (b.drop 4) else 0
def bodyOf (num : Nat) (b : List Nat) : List Nat := if err num b = 0 then body b else []

theorem body_len0 {b : List Nat} (h : form b) : (body b).length = many b := by
  obtain ⟨h1, h2, _⟩ := h
  rw [body, List.length_take, List.length_drop]; omega
theorem put_parts {num epoch : Nat} (hn : num < 4294967296) (he : epoch < 4294967296) {q : List Nat} (hq : q.length ≤ 240) :
    many (put num epoch q) = q.length ∧ body (put num epoch q) = q ∧ told (put num epoch q) = sum num epoch q ∧ (put num epoch q).take 12 = head num epoch q ∧ Rt.unfour (put num epoch q) = num ∧ Rt.unfour ((put num epoch q).drop 4) = epoch ∧ form (put num epoch q) := by
  have e8 : (put num epoch q).drop 8 = Rt.four q.length ++ (Rt.four (sum num epoch q) ++ (q ++ List.replicate (240 - q.length) 0)) := by
    simp only [put, head, List.append_assoc]; rfl
  have e12 : (put num epoch q).drop 12 = Rt.four (sum num epoch q) ++ (q ++ List.replicate (240 - q.length) 0) := by
    simp only [put, head, List.append_assoc]; rfl
  have e16 : (put num epoch q).drop 16 = q ++ List.replicate (240 - q.length) 0 := by
    simp only [put, head, List.append_assoc]; rfl
  have e4 : (put num epoch q).drop 4 = Rt.four epoch ++ (Rt.four q.length ++ (Rt.four (sum num epoch q) ++ (q ++ List.replicate (240 - q.length) 0))) := by
    simp only [put, head, List.append_assoc]; rfl
  have e0 : put num epoch q = Rt.four num ++ (Rt.four epoch ++ (Rt.four q.length ++ (Rt.four (sum num epoch q) ++ (q ++ List.replicate (240 - q.length) 0)))) := by
    simp only [put, head, List.append_assoc]
  have hm : many (put num epoch q) = q.length := by rw [many, e8, Nm.unfour_app (by omega)]
  have hb : body (put num epoch q) = q := by rw [body, hm, e16, List.take_left]
  refine ⟨hm, hb, by rw [told, e12, Nm.unfour_app (sum_lt _ _ _)], ?_, by rw [e0, Nm.unfour_app hn], by rw [e4, Nm.unfour_app he], put_length hq, by rw [hm]; exact hq, ?_⟩
  · simp only [put, List.append_assoc]; rfl
  · rw [hm, ← List.drop_drop, e16, List.drop_left]
    simp [Rt.nought]
theorem put_err {num epoch : Nat} (hn : num < 4294967296) (he : epoch < 4294967296) {q : List Nat} (hq : q.length ≤ 240) (other : Nat) : err other (put num epoch q) = if other = num then 0 else 4 := by
  obtain ⟨hm, hb, ht, h12, h0, h4, hf⟩ := put_parts hn he hq
  have hr : right (put num epoch q) = told (put num epoch q) := by rw [right, h12, hb, ht, sum]
  rw [err, if_pos hf, if_neg (fun h => h hr), h0]
  by_cases h : other = num
  · rw [if_neg (fun h' => h' h.symm), if_pos h]
  · rw [if_pos (fun h' => h h'.symm), if_neg h]
theorem put_get {num epoch : Nat} (hn : num < 4294967296) (he : epoch < 4294967296) {q : List Nat} (hq : q.length ≤ 240) : epochOf num (put num epoch q) = epoch ∧ bodyOf num (put num epoch q) = q := by
  obtain ⟨hm, hb, ht, h12, h0, h4, hf⟩ := put_parts hn he hq
  have h := put_err hn he hq num
  rw [if_pos rfl] at h
  exact ⟨by rw [epochOf, if_pos h, h4], by rw [bodyOf, if_pos h, hb]⟩
theorem err_length {num : Nat} {b : List Nat} (h : b.length ≠ 256) : err num b = 4 := by
  rw [err, if_neg (fun hf => h hf.1)]
theorem err_no {num : Nat} {b : List Nat} (h : err num b ≠ 0) : epochOf num b = 0 ∧ bodyOf num b = [] := ⟨by rw [epochOf, if_neg h], by rw [bodyOf, if_neg h]⟩
theorem err_kinds (num : Nat) (b : List Nat) : err num b = 0 ∨ err num b = 4 ∨ err num b = 11 := by
  unfold err
  split
  · split
    · simp
    · split <;> simp
  · simp
end Pg
end Go.Proofs.YtkiehoboeiengaaGreatDoor
namespace Go.Proofs.YtkiehoboeiengaaGreatDoor
open Go Go.RowKit
set_option linter.unusedSimpArgs false

def GrowBPost (w : World) (e : Ending) (w' : World) : Prop :=
  ∃ a c, e = .returned (.slice a 0 c) ∧ Own w' w.heap.size 5 (.slice a 0 c) [] ∧ Touch No w w'

set_option maxRecDepth 100000 in
set_option maxHeartbeats 2000000 in
theorem growB_any (w : World) (n : Nat) (hn : (n : Int) ≤ 10000000000000) :
    Calls Tryz.prog 231 #[.slice none 0 0, .int .i64 (n : Nat)] w (GrowBPost w) := by
  obtain ⟨I, hi0, hi1, hi2, hi3⟩ := u8_info
  have hh0 : ∀ wx : World, (Instr.slice 49 (.slice none 0 0) none (some (.int .i64 0)) none).run Tryz.prog wx = .ok (.slice none 0 0) wx := fun wx => run_head Tryz.underlying49 hi0 hi2 none 0 0 0 .i64 (Nat.le_refl _) wx
  have hh : ∀ (wx : World) (a : Option Addr) (n c : Nat), (Instr.slice 49 (.slice a n c) none (some (.int .i64 0)) none).run Tryz.prog wx = .ok (.slice a 0 c) wx := fun wx a n c => run_head Tryz.underlying49 hi0 hi2 a n c 0 .i64 (Nat.zero_le _) wx
  have Hi := Lib.hid (And.intro hi0 (And.intro hi1 (And.intro hi2 hi3)))
  clear hi0 hi1 hi2 hi3
  by_cases h0 : n = 0
  · subst h0
    go_enter Tryz.func231, Tryz.ntmps231
    go_wp2
    go_ret
    exact ⟨_, _, rfl, Own.nil _ _ _, Touch.refl _ _⟩
  · have hpos : 0 < n := by omega
    have hp : (0 : Int) < (n : Nat) := by omega
    have H0 := Lib.hid h0
    clear h0
    go_enter Tryz.func231, Tryz.ntmps231
    go_wp2_with (refine wpList_append_zeros rfl _ _ _ _ rfl w.heap.size 5 I (.int .u8 0) (.int .u8 0) 1 Tryz.underlying49 Tryz.underlying3 Hi.out.1 Hi.out.2.1 Hi.out.2.2.1 Hi.out.2.2.2 rfl rfl (.slice none 0 0) [] (Own.nil _ _ _) rfl n rfl (by simp; unfold maxLen; omega) (by simp; omega) (Nat.le_refl _) ?_)
    intro v' w3 own3 t3
    obtain ⟨a, c, rfl, _⟩ := own3.form' (n := n) (by simp)
    have O3 := Lib.hid own3
    have T3 := Lib.hid (t3.mono (G := No) (fun k _ h => by cases h))
    clear own3 t3
    go_wp2
    go_ret
    exact ⟨_, _, rfl, O3.out.head (Nat.zero_le _), T3.out⟩

def ConcatBPost (w : World) (xs : List Value) (N : Nat) (e : Ending) (w' : World) : Prop :=
  ∃ a c, e = .returned (.slice a N c) ∧ Own w' w.heap.size 5 (.slice a N c) xs ∧ Touch No w w'

set_option maxRecDepth 100000 in
set_option maxHeartbeats 4000000 in
theorem concatB_any (w : World) (g o c : Nat) (a1 : Option Addr) (n1 c1 : Nat) (us1 : List Value) (a2 : Option Addr) (n2 c2 : Nat) (us2 : List Value) (hc1 : w.cell? ⟨g, o, none⟩ = some (.slice a1 n1 c1)) (hc2 : w.cell? ⟨g, o + 1, none⟩ = some (.slice a2 n2 c2))
    (hl1 : us1.length = n1) (hl2 : us2.length = n2) (hr1 : Rd w a1 us1) (hr2 : Rd w a2 us2) (ho1 : ∀ u ∈ us1, u.oneCell' = true) (ho2 : ∀ u ∈ us2, u.oneCell' = true) (N : Nat) (hN : n1 + n2 = N) (hmax : (N : Int) ≤ 10000000000000) :
    Calls Tryz.prog 205 #[.slice (some ⟨g, o, none⟩) 2 c] w (ConcatBPost w (us1 ++ us2) N) := by
  obtain ⟨I, hi0, hi1, hi2, hi3⟩ := u8_info
  have Hi := Lib.hid (And.intro hi0 (And.intro hi1 (And.intro hi2 hi3)))
  have HC := Lib.hid (And.intro hc1 hc2)
  have HL := Lib.hid (And.intro hl1 hl2)
  have HR := Lib.hid (And.intro hr1 hr2)
  have HO := Lib.hid (And.intro ho1 ho2)
  have HN := Lib.hid hN
  have hb1 : (n1 : Int) ≤ 10000000000000 := by omega
  have hb2 : (n2 : Int) ≤ 10000000000000 := by omega
  have hsum : (n1 : Int) + (n2 : Int) = (N : Nat) := by omega
  clear hi0 hi1 hi2 hi3 hl1 hl2 hr1 hr2 ho1 ho2 hN
  go_enter Tryz.func205, Tryz.ntmps205
  go_wp2
  go_loopg [3, 11] 2 (fun g s3 s11 wr => ((g = 2 ∧ s11 = .int .i64 0 ∧ s3 = .int .i64 0) ∨ (g = 1 ∧ s11 = .int .i64 1 ∧ s3 = .int .i64 (n1 : Nat)) ∨ (g = 0 ∧ s11 = .int .i64 2 ∧ s3 = .int .i64 (N : Nat))) ∧ Hid (w = wr))
  case atStart => exact ⟨.inl ⟨rfl, rfl, rfl⟩, rfl⟩
  case round =>
    obtain ⟨hrel, hw⟩ := hrel
    have hww := hw.out
    clear hw
    subst hww
    rcases hrel with ⟨rfl, rfl, rfl⟩ | ⟨rfl, rfl, rfl⟩ | ⟨rfl, rfl, rfl⟩
    · go_wp2
      go_roundg 1
      case measure => omega
      case rel => exact ⟨.inr (.inl ⟨rfl, rfl, rfl⟩), rfl⟩
    · go_wp2
      go_roundg 0
      case measure => omega
      case rel => exact ⟨.inr (.inr ⟨rfl, rfl, by first | rfl | (rw [hsum])⟩), rfl⟩
    · clear hc1 hc2 hsum
      go_wp2_with fail
      refine (growB_any w N hmax).mono ?_
      rintro e w1 ⟨a', c', rfl, O1, T1⟩
      have HO1 := Lib.hid O1
      have HT1 := Lib.hid T1
      clear O1 T1
      go_wp2
      go_loopg [6, 27] 2 (fun g s6 s27 wr => ∃ v : Value, s6 = v ∧ ((g = 2 ∧ s27 = .int .i64 0 ∧ Hid (Own wr w.heap.size 5 v [])) ∨ (g = 1 ∧ s27 = .int .i64 1 ∧ Hid (Own wr w.heap.size 5 v us1)) ∨ (g = 0 ∧ s27 = .int .i64 2 ∧ Hid (Own wr w.heap.size 5 v (us1 ++ us2)))) ∧ Hid (Touch No w wr))
      case atStart => exact ⟨_, rfl, .inl ⟨rfl, rfl, HO1.out⟩, HT1.out⟩
      case round =>
        obtain ⟨v, rfl, hrel, T⟩ := hrel
        clear HO1 HT1
        have hsz := T.out.size
        rcases hrel with ⟨rfl, rfl, O⟩ | ⟨rfl, rfl, O⟩ | ⟨rfl, rfl, O⟩
        · have k1 := T.out.cell id HC.out.1
          go_wp2_with (refine wpList_append_rd rfl _ _ _ rfl w.heap.size 5 I (.int .u8 0) 1 Tryz.underlying49 Hi.out.1 Hi.out.2.1 Hi.out.2.2.1 Hi.out.2.2.2 rfl _ [] O.out rfl a1 n1 c1 us1 rfl HL.out.1 (HR.out.1.no T.out) HO.out.1 (by simp; unfold maxLen; omega) (by simp; omega) hsz ?_)
          intro v' w3 own3 t3
          have O3 := Lib.hid own3
          have T3 := Lib.hid (T.out.then t3 (fun k hk e => absurd (O.out.block e).1 (Nat.not_le.2 hk)))
          clear own3 t3
          go_wp2
          go_roundg 1
          case measure => omega
          case rel => exact ⟨_, rfl, .inr (.inl ⟨rfl, rfl, O3.out⟩), T3.out⟩
        · have k2 := T.out.cell id HC.out.2
          go_wp2_with (refine wpList_append_rd rfl _ _ _ rfl w.heap.size 5 I (.int .u8 0) 1 Tryz.underlying49 Hi.out.1 Hi.out.2.1 Hi.out.2.2.1 Hi.out.2.2.2 rfl _ us1 O.out rfl a2 n2 c2 us2 rfl HL.out.2 (HR.out.2.no T.out) HO.out.2 (by rw [HL.out.1]; unfold maxLen; omega) (by rw [HL.out.1]; omega) hsz ?_)
          intro v' w3 own3 t3
          have O3 := Lib.hid own3
          have T3 := Lib.hid (T.out.then t3 (fun k hk e => absurd (O.out.block e).1 (Nat.not_le.2 hk)))
          clear own3 t3
          go_wp2
          go_roundg 0
          case measure => omega
          case rel => exact ⟨_, rfl, .inr (.inr ⟨rfl, rfl, O3.out⟩), T3.out⟩
        · go_wp2
          go_ret
          obtain ⟨a', c', rfl, _⟩ := O.out.form' (n := N) (by rw [List.length_append, HL.out.1, HL.out.2, HN.out])
          exact ⟨a', c', rfl, O.out, T.out⟩
end Go.Proofs.YtkiehoboeiengaaGreatDoor
