/-
  The plain mathematics of pages (chapter 14): a page's bytes, what is got of bytes, sums that tell four neighbours. No program in sight.
  slices.Grow of nil and slices.Concat of two, by their own text.
  bytes.Trim of noughts, by its own text.
  Package pages by its own text: Get.
  Package pages by its own text: Put.
  Package drydockref02 by its own text: On, Of. The sum by halves is the sum by a table.
  Package drydockref14 by its own text: Put.
  Package drydockref14 by its own text: Get.
-/
import Derived.Test.YtmjeigceclmdoaaGreatDoorNm
import Derived.Test.YtmjeigceclmdoaaGreatDoorNumA
import Derived.Deep.RegionHeld3
import Derived.Test.YtmjeigceclmdoaaGreatDoorSums
import Derived.Test.YtmjeigceclmdoaaGreatDoorRef01
import Derived.Test.YtmjeigceclmdoaaGreatDoorRef01F
namespace Go.Proofs.YtmjeigceclmdoaaGreatDoor
open Go Go.RowKit
namespace Rt
/-! ### four neighbours -/
theorem xor_shift {a b : Nat} (k : Nat) : (a ^^^ b) / 2 ^ k = a / 2 ^ k ^^^ b / 2 ^ k := by
  rw [← Nat.shiftRight_eq_div_pow, ← Nat.shiftRight_eq_div_pow, ← Nat.shiftRight_eq_div_pow, Nat.shiftRight_xor_distrib]
theorem step_top {r c : Nat} (hr : r < 4294967296) : step r c / 16777216 = tab (r % 256 ^^^ c) / 16777216 := xor_top (by omega)
theorem step_hi {r r' c c' : Nat} (k : Nat) (hi : r % 256 ^^^ c = r' % 256 ^^^ c') (h : step r c / 2 ^ k = step r' c' / 2 ^ k) : r / 256 / 2 ^ k = r' / 256 / 2 ^ k := by
  unfold step at h
  rw [hi, xor_shift, xor_shift] at h
  exact xor_cancel h
theorem run4_inj {r a b c d a' b' c' d' : Nat} (hr : r < 4294967296) (ha : a < 256) (hb : b < 256) (hc : c < 256) (hd : d < 256) (ha' : a' < 256) (hb' : b' < 256) (hc' : c' < 256) (hd' : d' < 256)
    (h : run r [a, b, c, d] = run r [a', b', c', d']) : [a, b, c, d] = [a', b', c', d'] := by
  simp only [run] at h
  have r1 := step_lt hr ha
  have r1' := step_lt hr ha'
  have r2 := step_lt r1 hb
  have r2' := step_lt r1' hb'
  have r3 := step_lt r2 hc
  have r3' := step_lt r2' hc'
  have i3 := step_idx r3 r3' hd hd' h
  have q3 := step_hi 0 i3 (by rw [h])
  rw [Nat.pow_zero, Nat.div_one, Nat.div_one] at q3
  have i2 : step (step r a) b % 256 ^^^ c = step (step r a') b' % 256 ^^^ c' := by
    refine tops_inj (idx_lt hc) (idx_lt hc') ?_
    rw [← step_top r2, ← step_top r2']
    omega
  have q2 := step_hi 8 i2 (by show _ / 256 = _ / 256; exact q3)
  have i1 : step r a % 256 ^^^ b = step r a' % 256 ^^^ b' := by
    refine tops_inj (idx_lt hb) (idx_lt hb') ?_
    rw [← step_top r1, ← step_top r1']
    have : step (step r a) b / 256 / 256 = step (step r a') b' / 256 / 256 := q2
    omega
  have q1 := step_hi 16 i1 (by
    show _ / 65536 = _ / 65536
    have : step (step r a) b / 256 / 256 = step (step r a') b' / 256 / 256 := q2
    omega)
  have i0 : r % 256 ^^^ a = r % 256 ^^^ a' := by
    refine tops_inj (idx_lt ha) (idx_lt ha') ?_
    rw [← step_top hr, ← step_top hr]
    have : step r a / 256 / 65536 = step r a' / 256 / 65536 := q1
    omega
  have e0 := xor_cancel i0
  subst e0
  have e1 := xor_cancel i1
  subst e1
  have e2 := xor_cancel i2
  subst e2
  have e3 := xor_cancel i3
  subst e3
  rfl
theorem list4 {l : List Nat} (h : l.length = 4) : ∃ a b c d, l = [a, b, c, d] := by
  match l, h with
  | [a, b, c, d], _ => exact ⟨a, b, c, d, rfl⟩
/-- up to four neighbours other ones: another register -/
theorem run_few {r : Nat} {x y : List Nat} (hr : r < 4294967296) (hxy : x.length = y.length) (h4 : x.length ≤ 4) (hx : ∀ c ∈ x, c < 256) (hy : ∀ c ∈ y, c < 256) (h : run r x = run r y) : x = y := by
  have h1 : run r (x ++ List.replicate (4 - x.length) 0) = run r (y ++ List.replicate (4 - x.length) 0) := by rw [run_append, run_append, h]
  obtain ⟨a, b, c, d, e⟩ := list4 (l := x ++ List.replicate (4 - x.length) 0) (by simp; omega)
  obtain ⟨a', b', c', d', e'⟩ := list4 (l := y ++ List.replicate (4 - x.length) 0) (by simp; omega)
  have hx' : ∀ q ∈ x ++ List.replicate (4 - x.length) 0, q < 256 := fun q hq => by
    rcases List.mem_append.1 hq with h | h
    · exact hx q h
    · rw [(List.mem_replicate.1 h).2]; decide
  have hy' : ∀ q ∈ y ++ List.replicate (4 - x.length) 0, q < 256 := fun q hq => by
    rcases List.mem_append.1 hq with h | h
    · exact hy q h
    · rw [(List.mem_replicate.1 h).2]; decide
  rw [e] at hx' h1
  rw [e'] at hy' h1
  have h2 := run4_inj hr (hx' a (by simp)) (hx' b (by simp)) (hx' c (by simp)) (hx' d (by simp)) (hy' a' (by simp)) (hy' b' (by simp)) (hy' c' (by simp)) (hy' d' (by simp)) h1
  rw [← e, ← e'] at h2
  exact (List.append_inj h2 hxy).1
/-- .. another sum -/
theorem on_few {sum : Nat} {a x y b : List Nat} (hxy : x.length = y.length) (h4 : x.length ≤ 4) (ha : ∀ c ∈ a, c < 256) (hx : ∀ c ∈ x, c < 256) (hy : ∀ c ∈ y, c < 256) (hb : ∀ c ∈ b, c < 256) (h : on sum (a ++ x ++ b) = on sum (a ++ y ++ b)) : x = y := by
  have hr := run_lt a (neg_lt sum) ha
  unfold on at h
  rw [run_append, run_append, run_append, run_append] at h
  have h1 := neg_inj (run_lt _ (run_lt _ hr hx) hb) (run_lt _ (run_lt _ hr hy) hb) h
  exact run_few hr hxy h4 hx hy (run_inj b (run_lt _ hr hx) (run_lt _ hr hy) hb h1)
end Rt

namespace Pg
/-- a page's bytes -/
def head (num epoch : Nat) (body : List Nat) : List Nat := Rt.four num ++ Rt.four epoch ++ Rt.four body.length
def sum (num epoch : Nat) (body : List Nat) : Nat := Rt.on (Rt.of (head num epoch body)) body
def put (num epoch : Nat) (body : List Nat) : List Nat := head num epoch body ++ Rt.four (sum num epoch body) ++ body ++ List.replicate (240 - body.length) 0
theorem head_length (num epoch : Nat) (body : List Nat) : (head num epoch body).length = 12 := rfl
theorem sum_lt (num epoch : Nat) (body : List Nat) : sum num epoch body < 4294967296 := Rt.on_lt
theorem put_length {num epoch : Nat} {body : List Nat} (h : body.length ≤ 240) : (put num epoch body).length = 256 := by
  simp only [put, List.length_append, head_length, Rt.four_length, List.length_replicate]; omega
theorem head_lt (num epoch : Nat) (body : List Nat) : ∀ x ∈ head num epoch body, x < 256 := by
  intro x hx
  simp only [head, List.mem_append] at hx
  rcases hx with (h | h) | h <;> exact Rt.four_lt _ x h
theorem put_lt {num epoch : Nat} {body : List Nat} (hb : ∀ x ∈ body, x < 256) : ∀ x ∈ put num epoch body, x < 256 := by
  intro x hx
  simp only [put, List.mem_append] at hx
  rcases hx with ((h | h) | h) | h
  · exact head_lt _ _ _ x h
  · exact Rt.four_lt _ x h
  · exact hb x h
  · rw [(List.mem_replicate.1 h).2]; decide

/-- what Get says of bytes -/
def many (b : List Nat) : Nat := Rt.unfour (b.drop 8)
def body (b : List Nat) : List Nat := (b.drop 16).take (many b)
def told (b : List Nat) : Nat := Rt.unfour (b.drop 12)
def right (b : List Nat) : Nat := Rt.on (Rt.of (b.take 12)) (body b)
def form (b : List Nat) : Prop := b.length = 256 ∧ many b ≤ 240 ∧ Rt.nought (b.drop (16 + many b)) = true
instance (b : List Nat) : Decidable (form b) := by unfold form; infer_instance
def err (num : Nat) (b : List Nat) : Nat := if form b then (if right b ≠ told b then 11 else if Rt.unfour b ≠ num then 4 else 0) else 4
def epochOf (num : Nat) (b : List Nat) : Nat := if err num b = 0 then Rt.unfour (b.drop 4) else 0
def bodyOf (num : Nat) (b : List Nat) : List Nat := if err num b = 0 then body b else []

theorem body_len0 {b : List Nat} (h : form b) : (body b).length = many b := by
  obtain ⟨h1, h2, _⟩ := h
  rw [body, List.length_take, List.length_drop]; omega
theorem put_parts {num epoch : Nat} (hn : num < 4294967296) (he : epoch < 4294967296) {q : List Nat} (hq : q.length ≤ 240) :
    many (put num epoch q) = q.length ∧ body (put num epoch q) = q ∧ told (put num epoch q) = sum num epoch q ∧ (put num epoch q).take 12 = head num epoch q ∧ Rt.unfour (put num epoch q) = num ∧ Rt.unfour ((put num epoch q).drop 4) = epoch ∧ form (put num epoch q) := by
  have e8 : (put num epoch q).drop 8 = Rt.four q.length ++ (Rt.four (sum num epoch q) ++ (q ++ List.replicate (240 - q.length) 0)) := by
    simp only [put, head, List.append_assoc]; rfl
  have e12 : (put num epoch q).drop 12 = Rt.four (sum num epoch q) ++ (q ++ List.replicate (240 - q.length) 0) := by
    simp only [put, head, List.append_assoc]; rfl
  have e16 : (put num epoch q).drop 16 = q ++ List.replicate (240 - q.length) 0 := by
    simp only [put, head, List.append_assoc]; rfl
  have e4 : (put num epoch q).drop 4 = Rt.four epoch ++ (Rt.four q.length ++ (Rt.four (sum num epoch q) ++ (q ++ List.replicate (240 - q.length) 0))) := by
    simp only [put, head, List.append_assoc]; rfl
  have e0 : put num epoch q = Rt.four num ++ (Rt.four epoch ++ (Rt.four q.length ++ (Rt.four (sum num epoch q) ++ (q ++ List.replicate (240 - q.length) 0)))) := by
    simp only [put, head, List.append_assoc]
  have hm : many (put num epoch q) = q.length := by rw [many, e8, Nm.unfour_app (by omega)]
  have hb : body (put num epoch q) = q := by rw [body, hm, e16, List.take_left]
  refine ⟨hm, hb, by rw [told, e12, Nm.unfour_app (sum_lt _ _ _)], ?_, by rw [e0, Nm.unfour_app hn], by rw [e4, Nm.unfour_app he], put_length hq, by rw [hm]; exact hq, ?_⟩
  · simp only [put, List.append_assoc]; rfl
  · rw [hm, ← List.drop_drop, e16, List.drop_left]
    simp [Rt.nought]
theorem put_err {num epoch : Nat} (hn : num < 4294967296) (he : epoch < 4294967296) {q : List Nat} (hq : q.length ≤ 240) (other : Nat) : err other (put num epoch q) = if other = num then 0 else 4 := by
  obtain ⟨hm, hb, ht, h12, h0, h4, hf⟩ := put_parts hn he hq
  have hr : right (put num epoch q) = told (put num epoch q) := by rw [right, h12, hb, ht, sum]
  rw [err, if_pos hf, if_neg (fun h => h hr), h0]
  by_cases h : other = num
  · rw [if_neg (fun h' => h' h.symm), if_pos h]
  · rw [if_pos (fun h' => h h'.symm), if_neg h]
theorem put_get {num epoch : Nat} (hn : num < 4294967296) (he : epoch < 4294967296) {q : List Nat} (hq : q.length ≤ 240) : epochOf num (put num epoch q) = epoch ∧ bodyOf num (put num epoch q) = q := by
  obtain ⟨hm, hb, ht, h12, h0, h4, hf⟩ := put_parts hn he hq
  have h := put_err hn he hq num
  rw [if_pos rfl] at h
  exact ⟨by rw [epochOf, if_pos h, h4], by rw [bodyOf, if_pos h, hb]⟩
theorem err_length {num : Nat} {b : List Nat} (h : b.length ≠ 256) : err num b = 4 := by
  rw [err, if_neg (fun hf => h hf.1)]
theorem err_no {num : Nat} {b : List Nat} (h : err num b ≠ 0) : epochOf num b = 0 ∧ bodyOf num b = [] := ⟨by rw [epochOf, if_neg h], by rw [bodyOf, if_neg h]⟩
theorem err_kinds (num : Nat) (b : List Nat) : err num b = 0 ∨ err num b = 4 ∨ err num b = 11 := by
  unfold err
  split
  · split
    · simp
    · split <;> simp
  · simp
end Pg
end Go.Proofs.YtmjeigceclmdoaaGreatDoor
namespace Go.Proofs.YtmjeigceclmdoaaGreatDoor
open Go Go.RowKit
set_option linter.unusedSimpArgs false

def GrowBPost (w : World) (e : Ending) (w' : World) : Prop :=
  ∃ a c, e = .returned (.slice a 0 c) ∧ Own w' w.heap.size 5 (.slice a 0 c) [] ∧ Touch No w w'

set_option maxRecDepth 100000 in
set_option maxHeartbeats 2000000 in
theorem growB_any (w : World) (n : Nat) (hn : (n : Int) ≤ 10000000000000) :
    Calls Tryz.prog 210 #[.slice none 0 0, .int .i64 (n : Nat)] w (GrowBPost w) := by
  obtain ⟨I, hi0, hi1, hi2, hi3⟩ := u8_info
  have hh0 : ∀ wx : World, (Instr.slice 22 (.slice none 0 0) none (some (.int .i64 0)) none).run Tryz.prog wx = .ok (.slice none 0 0) wx := fun wx => run_head Tryz.underlying22 hi0 hi2 none 0 0 0 .i64 (Nat.le_refl _) wx
  have hh : ∀ (wx : World) (a : Option Addr) (n c : Nat), (Instr.slice 22 (.slice a n c) none (some (.int .i64 0)) none).run Tryz.prog wx = .ok (.slice a 0 c) wx := fun wx a n c => run_head Tryz.underlying22 hi0 hi2 a n c 0 .i64 (Nat.zero_le _) wx
  have Hi := Lib.hid (And.intro hi0 (And.intro hi1 (And.intro hi2 hi3)))
  clear hi0 hi1 hi2 hi3
  by_cases h0 : n = 0
  · subst h0
    go_enter Tryz.func210, Tryz.ntmps210
    go_wp2
    go_ret
    exact ⟨_, _, rfl, Own.nil _ _ _, Touch.refl _ _⟩
  · have hpos : 0 < n := by omega
    have hp : (0 : Int) < (n : Nat) := by omega
    have H0 := Lib.hid h0
    clear h0
    go_enter Tryz.func210, Tryz.ntmps210
    go_wp2_with (refine wpList_append_zeros rfl _ _ _ _ rfl w.heap.size 5 I (.int .u8 0) (.int .u8 0) 1 Tryz.underlying22 Tryz.underlying3 Hi.out.1 Hi.out.2.1 Hi.out.2.2.1 Hi.out.2.2.2 rfl rfl (.slice none 0 0) [] (Own.nil _ _ _) rfl n rfl (by simp; unfold maxLen; omega) (by simp; omega) (Nat.le_refl _) ?_)
    intro v' w3 own3 t3
    obtain ⟨a, c, rfl, _⟩ := own3.form' (n := n) (by simp)
    have O3 := Lib.hid own3
    have T3 := Lib.hid (t3.mono (G := No) (fun k _ h => by cases h))
    clear own3 t3
    go_wp2
    go_ret
    exact ⟨_, _, rfl, O3.out.head (Nat.zero_le _), T3.out⟩

def ConcatBPost (w : World) (xs : List Value) (N : Nat) (e : Ending) (w' : World) : Prop :=
  ∃ a c, e = .returned (.slice a N c) ∧ Own w' w.heap.size 5 (.slice a N c) xs ∧ Touch No w w'

set_option maxRecDepth 100000 in
set_option maxHeartbeats 4000000 in
theorem concatB_any (w : World) (g o c : Nat) (a1 : Option Addr) (n1 c1 : Nat) (us1 : List Value) (a2 : Option Addr) (n2 c2 : Nat) (us2 : List Value) (hc1 : w.cell? ⟨g, o, none⟩ = some (.slice a1 n1 c1)) (hc2 : w.cell? ⟨g, o + 1, none⟩ = some (.slice a2 n2 c2))
    (hl1 : us1.length = n1) (hl2 : us2.length = n2) (hr1 : Rd w a1 us1) (hr2 : Rd w a2 us2) (ho1 : ∀ u ∈ us1, u.oneCell' = true) (ho2 : ∀ u ∈ us2, u.oneCell' = true) (N : Nat) (hN : n1 + n2 = N) (hmax : (N : Int) ≤ 10000000000000) :
    Calls Tryz.prog 164 #[.slice (some ⟨g, o, none⟩) 2 c] w (ConcatBPost w (us1 ++ us2) N) := by
  obtain ⟨I, hi0, hi1, hi2, hi3⟩ := u8_info
  have Hi := Lib.hid (And.intro hi0 (And.intro hi1 (And.intro hi2 hi3)))
  have HC := Lib.hid (And.intro hc1 hc2)
  have HL := Lib.hid (And.intro hl1 hl2)
  have HR := Lib.hid (And.intro hr1 hr2)
  have HO := Lib.hid (And.intro ho1 ho2)
  have HN := Lib.hid hN
  have hb1 : (n1 : Int) ≤ 10000000000000 := by omega
  have hb2 : (n2 : Int) ≤ 10000000000000 := by omega
  have hsum : (n1 : Int) + (n2 : Int) = (N : Nat) := by omega
  clear hi0 hi1 hi2 hi3 hl1 hl2 hr1 hr2 ho1 ho2 hN
  go_enter Tryz.func164, Tryz.ntmps164
  go_wp2
  go_loopg [3, 11] 2 (fun g s3 s11 wr => ((g = 2 ∧ s11 = .int .i64 0 ∧ s3 = .int .i64 0) ∨ (g = 1 ∧ s11 = .int .i64 1 ∧ s3 = .int .i64 (n1 : Nat)) ∨ (g = 0 ∧ s11 = .int .i64 2 ∧ s3 = .int .i64 (N : Nat))) ∧ Hid (w = wr))
  case atStart => exact ⟨.inl ⟨rfl, rfl, rfl⟩, rfl⟩
  case round =>
    obtain ⟨hrel, hw⟩ := hrel
    have hww := hw.out
    clear hw
    subst hww
    rcases hrel with ⟨rfl, rfl, rfl⟩ | ⟨rfl, rfl, rfl⟩ | ⟨rfl, rfl, rfl⟩
    · go_wp2
      go_roundg 1
      case measure => omega
      case rel => exact ⟨.inr (.inl ⟨rfl, rfl, rfl⟩), rfl⟩
    · go_wp2
      go_roundg 0
      case measure => omega
      case rel => exact ⟨.inr (.inr ⟨rfl, rfl, by first | rfl | (rw [hsum])⟩), rfl⟩
    · clear hc1 hc2 hsum
      go_wp2_with fail
      refine (growB_any w N hmax).mono ?_
      rintro e w1 ⟨a', c', rfl, O1, T1⟩
      have HO1 := Lib.hid O1
      have HT1 := Lib.hid T1
      clear O1 T1
      go_wp2
      go_loopg [6, 27] 2 (fun g s6 s27 wr => ∃ v : Value, s6 = v ∧ ((g = 2 ∧ s27 = .int .i64 0 ∧ Hid (Own wr w.heap.size 5 v [])) ∨ (g = 1 ∧ s27 = .int .i64 1 ∧ Hid (Own wr w.heap.size 5 v us1)) ∨ (g = 0 ∧ s27 = .int .i64 2 ∧ Hid (Own wr w.heap.size 5 v (us1 ++ us2)))) ∧ Hid (Touch No w wr))
      case atStart => exact ⟨_, rfl, .inl ⟨rfl, rfl, HO1.out⟩, HT1.out⟩
      case round =>
        obtain ⟨v, rfl, hrel, T⟩ := hrel
        clear HO1 HT1
        have hsz := T.out.size
        rcases hrel with ⟨rfl, rfl, O⟩ | ⟨rfl, rfl, O⟩ | ⟨rfl, rfl, O⟩
        · have k1 := T.out.cell id HC.out.1
          go_wp2_with (refine wpList_append_rd rfl _ _ _ rfl w.heap.size 5 I (.int .u8 0) 1 Tryz.underlying22 Hi.out.1 Hi.out.2.1 Hi.out.2.2.1 Hi.out.2.2.2 rfl _ [] O.out rfl a1 n1 c1 us1 rfl HL.out.1 (HR.out.1.no T.out) HO.out.1 (by simp; unfold maxLen; omega) (by simp; omega) hsz ?_)
          intro v' w3 own3 t3
          have O3 := Lib.hid own3
          have T3 := Lib.hid (T.out.then t3 (fun k hk e => absurd (O.out.block e).1 (Nat.not_le.2 hk)))
          clear own3 t3
          go_wp2
          go_roundg 1
          case measure => omega
          case rel => exact ⟨_, rfl, .inr (.inl ⟨rfl, rfl, O3.out⟩), T3.out⟩
        · have k2 := T.out.cell id HC.out.2
          go_wp2_with (refine wpList_append_rd rfl _ _ _ rfl w.heap.size 5 I (.int .u8 0) 1 Tryz.underlying22 Hi.out.1 Hi.out.2.1 Hi.out.2.2.1 Hi.out.2.2.2 rfl _ us1 O.out rfl a2 n2 c2 us2 rfl HL.out.2 (HR.out.2.no T.out) HO.out.2 (by rw [HL.out.1]; unfold maxLen; omega) (by rw [HL.out.1]; omega) hsz ?_)
          intro v' w3 own3 t3
          have O3 := Lib.hid own3
          have T3 := Lib.hid (T.out.then t3 (fun k hk e => absurd (O.out.block e).1 (Nat.not_le.2 hk)))
          clear own3 t3
          go_wp2
          go_roundg 0
          case measure => omega
          case rel => exact ⟨_, rfl, .inr (.inr ⟨rfl, rfl, O3.out⟩), T3.out⟩
        · go_wp2
          go_ret
          obtain ⟨a', c', rfl, _⟩ := O.out.form' (n := N) (by rw [List.length_append, HL.out.1, HL.out.2, HN.out])
          exact ⟨a', c', rfl, O.out, T.out⟩
end Go.Proofs.YtmjeigceclmdoaaGreatDoor
namespace Go.Proofs.YtmjeigceclmdoaaGreatDoor
open Go Go.RowKit
set_option linter.unusedSimpArgs false

theorem nought_drop {b : List Nat} {k : Nat} (hk : k < b.length) : Rt.nought (b.drop k) = (b.getD k 0 == 0 && Rt.nought (b.drop (k + 1))) := by
  rw [List.drop_eq_getElem_cons hk, Rt.nought, List.all_cons, List.getD_eq_getElem?_getD, List.getElem?_eq_getElem hk]; rfl

def TrimRPost (w : World) (a : Option Addr) (n c : Nat) (b : List Nat) (e : Ending) (w' : World) : Prop :=
  ∃ k, k ≤ n ∧ e = .returned (.slice a k c) ∧ Rt.nought (b.drop k) = true ∧ w = w'

set_option maxRecDepth 100000 in
set_option maxHeartbeats 2000000 in
theorem trimRight_any (w : World) (a : Option Addr) (n c : Nat) (b : List Nat) (hb : b.length = n) (hnc : n ≤ c) (hmax : (c : Int) ≤ 9223372036854775807) (hr : Rd w a (nums .u8 b)) :
    Calls Tryz.prog 212 #[.slice a n c, .int .u8 0] w (TrimRPost w a n c b) := by
  obtain ⟨I, hi0, hi1, hi2, hi3⟩ := u8_info
  have hh : ∀ (wx : World) (k : Nat), k ≤ c → (Instr.slice 22 (.slice a (k + 1) c) none (some (.int .i64 (k : Nat))) none).run Tryz.prog wx = .ok (.slice a k c) wx := fun wx k hk => run_head Tryz.underlying22 hi0 hi2 a (k + 1) c k .i64 hk wx
  have HH := Lib.hid hh
  have Hb := Lib.hid hb
  have Hr := Lib.hid hr
  have h0 : Hid (Rt.nought (b.drop n) = true) := by show _ = _; rw [← hb, List.drop_length]; rfl
  clear hh hb hr hi0 hi1 hi2 hi3
  go_enter Tryz.func212, Tryz.ntmps212
  go_wp2
  go_loopg [0] n (fun g s0 wr => g ≤ n ∧ s0 = .slice a g c ∧ Hid (Rt.nought (b.drop g) = true) ∧ Hid (w = wr))
  case atStart => exact ⟨Nat.le_refl _, rfl, h0.out, rfl⟩
  case round =>
    obtain ⟨hg, rfl, N, hw⟩ := hrel
    have hww := hw.out
    clear hw
    subst hww
    cases gk with
    | zero =>
      go_wp2
      go_ret
      exact ⟨0, Nat.zero_le _, rfl, N.out, rfl⟩
    | succ g =>
      have hgl : g < b.length := by have := Hb.out; omega
      obtain ⟨gb, ob, rfl, hcb⟩ := Hr.out.num hgl
      have hcut := HH.out w g (by omega)
      have hnx := Lib.hid (nought_drop hgl)
      have hp : (0 : Int) < (g : Int) + 1 := by omega
      generalize b.getD g 0 = x at *
      clear hgl
      by_cases hx : x = 0
      · subst hx
        have HN : Hid (Rt.nought (b.drop g) = true) := by show _ = _; rw [hnx.out, N.out]; rfl
        go_wp2
        go_roundg g
        case measure => omega
        case rel => exact ⟨by omega, rfl, HN.out, rfl⟩
      · have hxe : ((x : Int) == 0) = false := by simp; omega
        clear hx
        go_wp2
        go_ret
        exact ⟨g + 1, hg, rfl, N.out, rfl⟩

def TrimLPost (w : World) (b : List Nat) (e : Ending) (w' : World) : Prop :=
  ∃ a k c, k ≤ b.length ∧ e = .returned (.slice a k c) ∧ (k = 0 ↔ Rt.nought b = true) ∧ w = w'

set_option maxRecDepth 100000 in
set_option maxHeartbeats 2000000 in
theorem trimLeft_any (w : World) (a : Option Addr) (n c : Nat) (b : List Nat) (hb : b.length = n) (hnc : n ≤ c) (hr : Rd w a (nums .u8 b)) :
    Calls Tryz.prog 211 #[.slice a n c, .int .u8 0] w (TrimLPost w b) := by
  obtain ⟨I, hi0, hi1, hi2, hi3⟩ := u8_info
  have hh : ∀ (wx : World) (a : Option Addr) (n c : Nat), 1 ≤ n → (Instr.slice 22 (.slice a n c) (some (.int .i64 1)) none none).run Tryz.prog wx = .ok (.slice (cutAddr a c 1) (n - 1) (c - 1)) wx := fun wx a n c h1 => run_cut Tryz.underlying22 hi0 hi2 a n c 1 .i64 h1 wx
  have HH := Lib.hid hh
  have Hb := Lib.hid hb
  have Fin : Hid (∀ m, m ≤ n → Rt.nought (b.take (n - m)) = true → (m = 0 ∨ ∃ x, (b.drop (n - m)).getD 0 0 = x ∧ x ≠ 0 ∧ 0 < m) → (m = 0 ↔ Rt.nought b = true)) := fun m hm h1 h2 => by
    have e : Rt.nought b = (Rt.nought (b.take (n - m)) && Rt.nought (b.drop (n - m))) := by
      conv => lhs; rw [← List.take_append_drop (n - m) b]
      simp only [Rt.nought, List.all_append]
    rw [e, h1, Bool.true_and]
    rcases h2 with rfl | ⟨x, hx, hx0, hm0⟩
    · rw [Nat.sub_zero, ← hb, List.drop_length]; simp [Rt.nought]
    · have hk : n - m < b.length := by omega
      rw [nought_drop hk]
      have : b.getD (n - m) 0 = x := by
        rw [List.getD_eq_getElem?_getD, List.getElem?_drop, Nat.add_zero] at hx
        rw [List.getD_eq_getElem?_getD]; exact hx
      rw [this]
      simp [hx0]; omega
  have Nx : Hid (∀ g, g + 1 ≤ n → Rt.nought (b.take (n - (g + 1))) = true → (b.drop (n - (g + 1))).getD 0 0 = 0 → Rt.nought (b.take (n - g)) = true) := fun g hg h1 h2 => by
    have hk : n - (g + 1) < b.length := by omega
    rw [show n - g = n - (g + 1) + 1 by omega, List.take_succ_eq_append_getElem hk]
    have : b[n - (g + 1)] = 0 := by
      rw [List.getD_eq_getElem?_getD, List.getElem?_drop, Nat.add_zero, List.getElem?_eq_getElem hk] at h2
      exact h2
    rw [this]
    simp only [Rt.nought, List.all_append] at h1 ⊢
    rw [h1]; rfl
  have H0 : Hid (Rd w a (nums .u8 (b.drop (n - n)))) := by show Rd _ _ _; rw [Nat.sub_self, List.drop_zero]; exact hr
  have Z0 : Hid (Rt.nought (b.take (n - n)) = true) := by show _ = _; rw [Nat.sub_self]; rfl
  clear hh hb hr hi0 hi1 hi2 hi3
  go_enter Tryz.func211, Tryz.ntmps211
  go_wp2
  go_loopg [0] n (fun g s0 wr => ∃ (a' : Option Addr) (c' : Nat), g ≤ n ∧ g ≤ c' ∧ c' ≤ c ∧ s0 = .slice a' g c' ∧ Hid (Rd w a' (nums .u8 (b.drop (n - g)))) ∧ Hid (Rt.nought (b.take (n - g)) = true) ∧ Hid (w = wr))
  case atStart => exact ⟨a, c, Nat.le_refl _, hnc, Nat.le_refl _, rfl, H0.out, Z0.out, rfl⟩
  case round =>
    obtain ⟨a', c', hg, hgc, hcc, rfl, R, N, hw⟩ := hrel
    have hww := hw.out
    clear hw
    subst hww
    cases gk with
    | zero =>
      go_wp2
      go_ret
      exact ⟨_, 0, 0, Nat.zero_le _, rfl, Fin.out 0 (Nat.zero_le _) N.out (Or.inl rfl), rfl⟩
    | succ g =>
      have hdl : (b.drop (n - (g + 1))).length = g + 1 := by rw [List.length_drop]; have := Hb.out; omega
      obtain ⟨gb, ob, rfl, hcb⟩ := R.out.num (i := 0) (by omega)
      rw [Nat.add_zero] at hcb
      have hcut := HH.out w (some ⟨gb, ob, none⟩) (g + 1) c' (by omega)
      rw [Nat.add_sub_cancel] at hcut
      have hp : (0 : Int) < (g : Int) + 1 := by omega
      have hrc := R.out.cut (cap := c') (l := 1) (by rw [nums_length]; omega)
      rw [nums, ← List.map_drop, List.drop_drop, show n - (g + 1) + 1 = n - g by omega] at hrc
      have HRC := Lib.hid hrc
      obtain ⟨x, hx⟩ : ∃ x, (b.drop (n - (g + 1))).getD 0 0 = x := ⟨_, rfl⟩
      rw [hx] at hcb
      have HX := Lib.hid hx
      clear hrc hx hdl
      by_cases hx0 : x = 0
      · subst hx0
        have HN := Lib.hid (Nx.out g hg N.out HX.out)
        go_wp2
        go_roundg g
        case measure => omega
        case rel => exact ⟨_, c' - 1, by omega, by omega, by omega, rfl, HRC.out, HN.out, rfl⟩
      · have hxe : ((x : Int) == 0) = false := by simp; omega
        have HF := Lib.hid (Fin.out (g + 1) hg N.out (Or.inr ⟨x, HX.out, hx0, by omega⟩))
        have hne : ((g : Int) + 1 == 0) = false := by simp; omega
        clear hx0 hcut
        go_wp2
        go_ret
        exact ⟨_, g + 1, c', by have := Hb.out; omega, rfl, HF.out, rfl⟩

def TrimPost (w : World) (b : List Nat) (e : Ending) (w' : World) : Prop :=
  ∃ a k c, k ≤ b.length ∧ e = .returned (.slice a k c) ∧ (k = 0 ↔ Rt.nought b = true) ∧ Touch No w w'

set_option maxRecDepth 100000 in
set_option maxHeartbeats 2000000 in
theorem trim_any (w : World) (a : Option Addr) (n c : Nat) (b : List Nat) (hb : b.length = n) (hnc : n ≤ c) (hmax : (c : Int) ≤ 9223372036854775807) (hr : Rd w a (nums .u8 b)) :
    Calls Tryz.prog 165 #[.slice a n c, .string ⟨#[0]⟩] w (TrimPost w b) := by
  by_cases h0 : n = 0
  · subst h0
    obtain rfl : b = [] := List.length_eq_zero_iff.1 hb
    clear hr
    go_enter Tryz.func165, Tryz.ntmps165
    go_wp2
    go_ret
    exact ⟨_, 0, 0, Nat.le_refl _, rfl, by simp [Rt.nought], Touch.refl _ _⟩
  · have hne : ((n : Int) == 0) = false := by simp; omega
    have Hr := Lib.hid (hr.no ((Touch.refl No w).drew))
    have Hb := Lib.hid hb
    have Fin : Hid (∀ k k1, k ≤ n → Rt.nought (b.drop k) = true → (k1 = 0 ↔ Rt.nought (b.take k) = true) → (k1 = 0 ↔ Rt.nought b = true)) := fun k k1 _ h1 h2 => by
      rw [h2]
      conv => rhs; rw [← List.take_append_drop k b]
      simp only [Rt.nought, List.all_append, Bool.and_eq_true] at h1 ⊢
      exact ⟨fun h => ⟨h, h1⟩, fun h => h.1⟩
    have HRk : Hid (∀ k, k ≤ n → (b.take k).length = k ∧ Rd w.drew a (nums .u8 (b.take k))) := fun k hk => by
      have h2 := Hb.out
      refine ⟨by rw [List.length_take]; omega, ?_⟩
      have := Hr.out.take k
      rw [nums, ← List.map_take] at this; exact this
    clear hr h0 hb
    go_enter Tryz.func165, Tryz.ntmps165
    go_wp2_with fail
    go_region_held3 (fun _ => True) (trivial) (first
      | (go_at_call 212; refine (trimRight_any _ a n c b Hb.out hnc hmax Hr.out).mono ?_; rintro e w5 ⟨k, hk, rfl, hz, rfl⟩)
      | (go_at_call 211; refine (trimLeft_any _ a k c (b.take k) (HRk.out k hk).1 (by omega) (HRk.out k hk).2).mono ?_; rintro e w6 ⟨a6, k6, c6, hk6, rfl, hf6, rfl⟩))
    all_goals
      have HF := Lib.hid (Fin.out k k6 hk hz hf6)
      have HK : Hid (k6 ≤ b.length) := by show _ ≤ _; rw [List.length_take] at hk6; omega
      clear hz hf6 hk6
      go_wp2
      go_ret
      exact ⟨a6, k6, c6, HK.out, rfl, HF.out, (Touch.refl No w).drew⟩
end Go.Proofs.YtmjeigceclmdoaaGreatDoor
namespace Go.Proofs.YtmjeigceclmdoaaGreatDoor
open Go Go.RowKit
set_option linter.unusedSimpArgs false

def gotP (b : List Nat) (k : Nat) : List Nat := (List.range k).map (fun j => Rt.unfour (b.drop (4 * j))) ++ List.replicate (4 - k) 0
theorem gotP_length {b : List Nat} {k : Nat} (h : k ≤ 4) : (gotP b k).length = 4 := by simp [gotP]; omega
theorem gotP_next {b : List Nat} {k v : Nat} (h : k < 4) (hv : Rt.unfour (b.drop (4 * k)) = v) : (nums .u32 (gotP b k)).set k (.int .u32 (v : Nat)) = nums .u32 (gotP b (k + 1)) := by
  subst hv
  rw [nums, nums, ← List.map_set (f := fun (x : Nat) => Value.int .u32 (x : Int)) (a := Rt.unfour (b.drop (4 * k)))]
  congr 1
  rw [gotP, gotP, List.set_append_right _ _ (by simp), List.range_succ, List.map_append, List.append_assoc]
  congr 1
  simp only [List.length_map, List.length_range, Nat.sub_self]
  rw [show 4 - k = (4 - (k + 1)) + 1 by omega, List.replicate_succ]
  rfl
def zP4 : Array Value := (List.replicate 4 (Value.int .u32 0)).toArray
theorem zP4_zero (w : World) : (zeroValue 179).run Tryz.prog w = .ok (.agg zP4) w := by kernel_rfl
theorem zP4_size : zP4.size = 4 := by kernel_rfl
theorem zP4_ne : zP4 ≠ #[] := fun h => by have := zP4_size; rw [h] at this; cases this

theorem getFour_at (w : World) (a : Option Addr) (n c : Nat) (b : List Nat) (v : Nat) (hb : b.length = n) (h4 : 4 ≤ n) (hmax : (n : Int) ≤ 9223372036854775807) (hr : Rd w a (nums .u8 b)) (hlt : ∀ x ∈ b, x < 256) (hv : Rt.unfour b = v) :
    Calls Tryz.prog 24 #[.slice a n c] w fun e w' => e = .returned (.tuple #[.int .u32 (v : Nat), .int .i64 0]) ∧ Touch No w w' := by
  subst hv
  refine (getFour_any w a n c b hb hmax hr hlt).mono fun e w' ⟨he, t⟩ => ⟨?_, t⟩
  rw [if_neg (by omega), if_neg (by omega)] at he
  exact he

set_option maxHeartbeats 2000000 in
theorem cloneB_own (w : World) (a : Option Addr) (n c : Nat) (xs : List Nat) (ha : a ≠ none) (hr : Rd w a (nums .u8 xs)) (hl : xs.length = n) (hn : (n : Int) ≤ 1000000000000) :
    Calls Tryz.prog 156 #[.slice a n c] w fun e w' => ∃ a' c', e = .returned (.slice a' n c') ∧ Own w' w.heap.size 5 (.slice a' n c') (nums .u8 xs) ∧ n ≤ c' ∧ Touch No w w' := by
  obtain ⟨⟨g, o, sp⟩, rfl⟩ : ∃ ad, a = some ad := by cases a with | none => exact absurd rfl ha | some ad => exact ⟨ad, rfl⟩
  have hq := fun (w : World) (a : Option Addr) (n c n' c' : Nat) => Lib.run_eql_slice_nil (P := Tryz.prog) w 22 5 a n c n' c' Tryz.underlying22
  obtain ⟨I, hi0, hi1, hi2, hi3⟩ := u8_info
  have HI := Lib.hid (And.intro hi0 (And.intro hi1 (And.intro hi2 hi3)))
  have Hl := Lib.hid (show (nums .u8 xs).length = n by rw [nums_length]; exact hl)
  have Hn := Lib.hid hn
  have HR := Lib.hid (hr.no ((Touch.refl No w).alloc (.cells #[] 5)))
  have HO : Hid (Own (w.alloc (.cells #[] 5)) w.heap.size 5 (.slice (some ⟨w.heap.size, 0, none⟩) 0 0) []) := own_of_row (Row.new w 5 #[]) (Nat.le_refl _) rfl (Nat.zero_le _)
  clear hr hn hl hi0 hi1 hi2 hi3 ha
  go_enter Tryz.func156, Tryz.ntmps156
  go_wp2_with (refine wpList_append_rd rfl _ _ _ rfl w.heap.size 5 I (.int .u8 0) 1 Tryz.underlying22 HI.out.1 HI.out.2.1 HI.out.2.2.1 HI.out.2.2.2 rfl _ _ HO.out rfl (some ⟨g, o, sp⟩) n c (nums .u8 xs) rfl Hl.out HR.out (nums_one _ _) (by have := Hn.out; unfold maxLen; simp only [List.length_nil]; omega) (by have := Hn.out; simp only [List.length_nil]; omega) (by simp) ?_)
  rintro v w1 o1 t1
  have o1 : Own w1 w.heap.size 5 v (nums .u8 xs) := o1
  obtain ⟨a', c', rfl, hc, _⟩ := o1.form' (n := n) Hl.out
  have O1 := Lib.hid o1
  have T1 := Lib.hid (((Touch.refl No w).alloc (.cells #[] 5)).then t1 (fun i hi e => absurd (HO.out.block e).1 (Nat.not_le.2 hi)))
  have HC := Lib.hid hc
  clear o1 t1 hc
  go_wp2
  go_ret
  exact ⟨a', c', by simp, O1.out, HC.out, T1.out⟩
theorem clipB_any (w : World) (a : Option Addr) (n c : Nat) (h : n ≤ c) : Calls Tryz.prog 155 #[.slice a n c] w fun e w' => e = .returned (.slice a n n) ∧ w = w' := by
  have hnc : (n : Int) ≤ (c : Int) := by omega
  have h0 : (0 : Int) ≤ (n : Int) := Int.natCast_nonneg _
  go_enter Tryz.func155, Tryz.ntmps155
  go_wp2
  go_ret
  exact ⟨rfl, rfl⟩

def PgGetPost (w : World) (num : Nat) (b : List Nat) (e : Ending) (w' : World) : Prop :=
  ∃ a n, e = .returned (.tuple #[.int .u32 (Pg.epochOf num b : Nat), .slice a n n, .int .i64 (Pg.err num b : Nat)]) ∧ (Pg.bodyOf num b).length = n ∧ (∃ c, Own w' w.heap.size 5 (.slice a n c) (nums .u8 (Pg.bodyOf num b))) ∧ Touch No w w'
theorem pgGet_no {w w' : World} {num : Nat} {b : List Nat} {E : Nat} (h : Pg.err num b = E) (h0 : E ≠ 0) (t : Touch No w w') : PgGetPost w num b (.returned (.tuple #[.int .u32 0, .slice none 0 0, .int .i64 (E : Nat)])) w' := by
  obtain ⟨h1, h2⟩ := Pg.err_no (num := num) (b := b) (by rw [h]; exact h0)
  exact ⟨none, 0, by rw [h1, h]; rfl, by rw [h2]; rfl, ⟨0, by rw [h2]; exact Own.nil _ _ _⟩, t⟩

set_option maxRecDepth 100000 in
set_option maxHeartbeats 4000000 in
theorem pageGet_any (w : World) (num : Nat) (a : Option Addr) (n c : Nat) (b : List Nat) (hb : b.length = n) (hc : n ≤ c) (hmax : (c : Int) ≤ 9223372036854775807) (hr : Rd w a (nums .u8 b)) (hlt : ∀ x ∈ b, x < 256) :
    Calls Tryz.prog 72 #[.int .u32 (num : Nat), .slice a n c] w (PgGetPost w num b) := by
  by_cases h256 : n = 256
  · subst h256
    obtain ⟨I, hi0, hi1, hi2, hi3⟩ := u8_info
    have HI := Lib.hid (And.intro hi0 hi2)
    have Hb := Lib.hid hb
    have Hr := Lib.hid hr
    have Hlt := Lib.hid hlt
    have Hc := Lib.hid hc
    have hc256 : (256 : Int) ≤ (c : Nat) := by omega
    clear hb hr hlt hi0 hi1 hi2 hi3 hc
    have hz1 := zP4_zero
    have hz3 := zP4_size
    have hz5 := zP4_ne
    go_enter Tryz.func72, Tryz.ntmps72
    go_wp2
    obtain ⟨L, hL⟩ : ∃ L, L = w.heap.size := ⟨_, rfl⟩
    obtain ⟨W, hW⟩ : ∃ W, W = w.alloc (.cells zP4 179) := ⟨_, rfl⟩
    have tW : Touch No w W := by rw [hW]; exact (Touch.refl No w).alloc _
    have hrL : Row W L 179 (nums .u32 (gotP b 0)) := by
      rw [hW, hL]; exact Row.new _ _ zP4
    rw [← hW, ← hL]
    have HL := Lib.hid hrL
    have HT := Lib.hid tW
    have HLL := Lib.hid hL
    clear hL hW tW hrL hz1 hz3 hz5
    go_loopg [12] 4 (fun g s12 wr => ∃ k : Nat, k + g = 4 ∧ s12 = .int .i64 ((k : Nat) : Int) ∧ Hid (Row wr L 179 (nums .u32 (gotP b k))) ∧ Hid (Touch (One L) W wr))
    case atStart => exact ⟨0, rfl, rfl, HL.out, Touch.refl _ _⟩
    case round =>
      obtain ⟨k, hkg, rfl, LL, T⟩ := hrel
      have TW := Lib.hid (HT.out.then T.out (fun i hi e => by
        have h2 : i = L := e
        have h3 := HLL.out
        omega))
      cases gk with
      | zero =>
        obtain rfl : k = 4 := by omega
        have hcl : ∀ j, j < 4 → wr.cell? ⟨L, j, none⟩ = some (.int .u32 (Rt.unfour (b.drop (4 * j)) : Nat)) := fun j hj => by
          rw [LL.out.cell, nums_get (by rw [gotP_length (by decide)]; exact hj)]
          congr 3
          match j, hj with
          | 0, _ => rfl
          | 1, _ => rfl
          | 2, _ => rfl
          | 3, _ => rfl
        obtain ⟨x0, hx0⟩ : ∃ x0, Rt.unfour b = x0 := ⟨_, rfl⟩
        obtain ⟨x1, hx1⟩ : ∃ x1, Rt.unfour (b.drop 4) = x1 := ⟨_, rfl⟩
        obtain ⟨m, hm⟩ : ∃ m, Pg.many b = m := ⟨_, rfl⟩
        obtain ⟨td, htd⟩ : ∃ td, Pg.told b = td := ⟨_, rfl⟩
        have HK : Hid (∀ wx, Touch No wr wx → wx.cell? ⟨L, 0, none⟩ = some (.int .u32 (x0 : Nat)) ∧ wx.cell? ⟨L, 1, none⟩ = some (.int .u32 (x1 : Nat)) ∧ wx.cell? ⟨L, 2, none⟩ = some (.int .u32 (m : Nat)) ∧ wx.cell? ⟨L, 3, none⟩ = some (.int .u32 (td : Nat))) := fun wx t => by
          refine ⟨t.cell (id : No _ → False) ?_, t.cell (id : No _ → False) ?_, t.cell (id : No _ → False) ?_, t.cell (id : No _ → False) ?_⟩
          · rw [← hx0]; have := hcl 0 (by decide); exact this
          · rw [← hx1]; exact hcl 1 (by decide)
          · rw [← hm]; exact hcl 2 (by decide)
          · rw [← htd]; exact hcl 3 (by decide)
        obtain ⟨k0, k1, k2, k3⟩ := HK.out wr (Touch.refl _ _)
        have hm32 : m < 4294967296 := by rw [← hm]; exact Rt.unfour_lt (fun x hx => Hlt.out x (List.mem_of_mem_drop hx))
        have Hx0 := Lib.hid hx0
        have Hx1 := Lib.hid hx1
        have Hm := Lib.hid hm
        have Htd := Lib.hid htd
        clear hcl hx0 hx1 hm htd T LL HT HL
        by_cases hm1 : 240 < m
        · have hm1' : (240 : Int) < (m : Nat) := by omega
          have hF : Hid (Pg.err num b = 4) := by show _ = _; rw [Pg.err, if_neg (fun h => by have := h.2.1; rw [Hm.out] at this; omega)]
          clear hm1
          go_wp2
          go_ret3
          exact pgGet_no hF.out (by decide) TW.out
        have hm1' : ¬ (240 : Int) < (m : Nat) := by omega
        have hmw : (m : Int) ≤ 240 := by omega
        have hm0 : (0 : Int) ≤ (m : Nat) := by omega
        obtain ⟨r, hr⟩ : ∃ r, 256 - (16 + m) = r := ⟨_, rfl⟩
        have hcut : ∀ wx : World, (Instr.slice 22 (.slice a 256 c) (some (.int .u32 (16 + (m : Int)))) none none).run Tryz.prog wx = .ok (.slice (cutAddr a c (16 + m)) r (c - (16 + m))) wx := fun wx => by
          have := run_cut Tryz.underlying22 HI.out.1 HI.out.2 a 256 c (16 + m) .u32 (by omega) wx
          rw [hr, show ((16 + m : Nat) : Int) = 16 + (m : Int) by omega] at this; exact this
        have rk : Hid (Rd wr (cutAddr a c (16 + m)) (nums .u8 (b.drop (16 + m)))) := by
          have := (Hr.out.no TW.out).cut (cap := c) (l := 16 + m) (by rw [nums_length, Hb.out]; exact Hc.out)
          show Rd _ _ _
          rw [nums, List.map_drop]; exact this
        have lk : Hid ((b.drop (16 + m)).length = r) := by show _ = _; rw [List.length_drop, Hb.out, hr]
        have hrc : Hid (r ≤ c - (16 + m)) := by show _ ≤ _; have := Hc.out; omega
        have hmx : Hid (((c - (16 + m) : Nat) : Int) ≤ 9223372036854775807) := by show _ ≤ _; omega
        clear hr
        go_wp2_with fail
        refine (trim_any _ _ r _ (b.drop (16 + m)) lk.out hrc.out hmx.out rk.out).mono ?_
        rintro e w1 ⟨a1, z, c1, hz, rfl, hz0, t1⟩
        obtain ⟨q0, q1, q2, q3⟩ := HK.out w1 t1
        have T1 := Lib.hid (TW.out.trans t1)
        have Ht1 := Lib.hid t1
        clear t1 k0 k1 k2 k3 hcut lk rk hrc hmx
        cases hno : Rt.nought (b.drop (16 + m)) with
        | false =>
          have hz1 : (0 : Int) < (z : Nat) := by
            have : z ≠ 0 := fun h => by have := hz0.1 h; rw [hno] at this; cases this
            omega
          have hF : Hid (Pg.err num b = 4) := by show _ = _; rw [Pg.err, if_neg (fun h => by have := h.2.2; rw [Hm.out, hno] at this; cases this)]
          clear hz0 hno hz hm1
          go_wp2
          go_ret3
          exact pgGet_no hF.out (by decide) T1.out
        | true =>
          obtain rfl : z = 0 := hz0.2 hno
          have hform : Hid (Pg.form b) := ⟨Hb.out, by rw [Hm.out]; omega, by rw [Hm.out]; exact hno⟩
          clear hz0 hno hz
          obtain ⟨q, hq⟩ : ∃ q, Pg.body b = q := ⟨_, rfl⟩
          have hql : Hid (q.length = m) := by show _ = _; rw [← hq, Pg.body_len0 hform.out, Hm.out]
          have hcut2 : ∀ wx : World, (Instr.slice 22 (.slice a 256 c) (some (.int .i64 16)) (some (.int .u32 (16 + (m : Int)))) none).run Tryz.prog wx = .ok (.slice (cutAddr a c 16) m (c - 16)) wx := fun wx => by
            have := run_cut2 Tryz.underlying22 HI.out.1 HI.out.2 a 256 c 16 (16 + m) .i64 .u32 (by omega) (by have := Hc.out; omega) wx
            rw [show 16 + m - 16 = m by omega, show ((16 + m : Nat) : Int) = 16 + (m : Int) by omega] at this; exact this
          have hhead : ∀ wx : World, (Instr.slice 22 (.slice a 256 c) none (some (.int .i64 12)) none).run Tryz.prog wx = .ok (.slice a 12 c) wx := fun wx => run_head Tryz.underlying22 HI.out.1 HI.out.2 a 256 c 12 .i64 (by have := Hc.out; omega) wx
          have hne16 : Hid (cutAddr a c 16 ≠ none) := by
            obtain ⟨g, o, e, _⟩ := Hr.out.num (i := 0) (by rw [Hb.out]; decide)
            show _ ≠ _
            rw [cutAddr, if_neg (by have := Hc.out; omega), e]
            exact fun h => by cases h
          have rb : Hid (∀ wx, Touch No w wx → Rd wx (cutAddr a c 16) (nums .u8 q)) := fun wx t => by
            have := ((Hr.out.no t).cut (cap := c) (l := 16) (by rw [nums_length, Hb.out]; exact Hc.out)).take m
            rw [← hq, Pg.body, Hm.out, nums, List.map_take, List.map_drop]; exact this
          have rh : Hid (∀ wx, Touch No w wx → Rd wx a (nums .u8 (b.take 12))) := fun wx t => by
            have := (Hr.out.no t).take 12
            rw [nums, List.map_take]; exact this
          have lh : Hid ((b.take 12).length = 12) := by show _ = _; rw [List.length_take, Hb.out]; rfl
          obtain ⟨sm, hsm⟩ : ∃ sm, Rt.of (b.take 12) = sm := ⟨_, rfl⟩
          obtain ⟨x, hx⟩ : ∃ x, Rt.on sm q = x := ⟨_, rfl⟩
          have hright : Hid (Pg.right b = x) := by show _ = _; rw [Pg.right, hq, hsm, hx]
          have hsm32 : Hid (sm < 4294967296) := by show _ < _; rw [← hsm]; exact Rt.of_lt
          have CO : Hid (∀ wx, Touch No w wx → Calls Tryz.prog 158 #[.slice a 12 c] wx fun e w' => e = .returned (.int .u32 (sm : Nat)) ∧ Touch No wx w') := fun wx t => by
            rw [← hsm]; exact of_any wx a 12 c (b.take 12) lh.out (by decide) (rh.out wx t) (fun x hx => Hlt.out x (List.mem_of_mem_take hx))
          have CN : Hid (∀ wx, Touch No w wx → Calls Tryz.prog 163 #[.int .u32 (sm : Nat), .slice (cutAddr a c 16) m (c - 16)] wx fun e w' => e = .returned (.int .u32 (x : Nat)) ∧ Touch No wx w') := fun wx t => by
            rw [← hx]
            exact on_any wx sm hsm32.out _ m _ q hql.out (by omega) (rb.out wx t) (fun y hy => by rw [← hq] at hy; exact Hlt.out y (List.mem_of_mem_drop (List.mem_of_mem_take hy)))
          have Hq := Lib.hid hq
          clear hq hsm hx hm1
          have k3d : w1.drew.cell? ⟨L, 3, none⟩ = some (.int .u32 (td : Nat)) := q3
          have HK1 : Hid (∀ wx, Touch No w1 wx → wx.cell? ⟨L, 0, none⟩ = some (.int .u32 (x0 : Nat)) ∧ wx.cell? ⟨L, 1, none⟩ = some (.int .u32 (x1 : Nat)) ∧ wx.cell? ⟨L, 2, none⟩ = some (.int .u32 (m : Nat)) ∧ wx.cell? ⟨L, 3, none⟩ = some (.int .u32 (td : Nat))) := fun wx t => HK.out wx (Ht1.out.trans t)
          have T1d := Lib.hid ((Touch.refl No w1).drew)
          have cm := fun wx t => (CN.out wx t)
          clear cm Ht1 HK
          by_cases hst : x = td
          · subst hst
            go_wp2_with fail
            go_region_held3 (fun w' => w'.cell? ⟨L, 3, none⟩ = some (.int .u32 (x : Nat))) (first | exact q3 | exact k3d | exact (HK1.out _ (T1d.out.trans t2)).2.2.2 | exact (HK1.out _ ((T1d.out.trans t2).trans t3)).2.2.2) (first
              | (go_at_call 158; refine (CO.out _ (T1.out.trans T1d.out)).mono ?_; rintro e w2 ⟨rfl, t2⟩)
              | (go_at_call 163; refine (CN.out _ ((T1.out.trans T1d.out).trans t2)).mono ?_; rintro e w3 ⟨rfl, t3⟩))
            all_goals
              obtain ⟨q0, q1, q2, q3⟩ := HK1.out _ ((T1d.out.trans t2).trans t3)
              have T3 := Lib.hid (((T1.out.trans T1d.out).trans t2).trans t3)
              have HK3 : Hid (∀ wx, Touch No w3 wx → wx.cell? ⟨L, 1, none⟩ = some (.int .u32 (x1 : Nat))) := fun wx t => (HK1.out wx (((T1d.out.trans t2).trans t3).trans t)).2.1
              have T3d := Lib.hid ((Touch.refl No w3).drew)
              clear t2 t3 k3d
              by_cases hnum : x0 = num
              · subst hnum
                have hE : Hid (Pg.err x0 b = 0) := by show _ = _; rw [Pg.err, if_pos hform.out, hright.out, Htd.out, if_neg (fun h => h rfl), Hx0.out, if_neg (fun h => h rfl)]
                have k1d : w3.drew.cell? ⟨L, 1, none⟩ = some (.int .u32 (x1 : Nat)) := q1
                clear q2 q3
                go_wp2_with fail
                clear q0
                go_region_held3 (fun w' => w'.cell? ⟨L, 1, none⟩ = some (.int .u32 (x1 : Nat))) (first | exact q1 | exact k1d | exact HK3.out _ (T3d.out.trans t4)) (first
                  | (go_at_call 156; refine (cloneB_own _ (cutAddr a c 16) m (c - 16) q hne16.out (rb.out _ (T3.out.trans T3d.out)) hql.out (by omega)).mono ?_; rintro e w4 ⟨a4, c4, rfl, o4, hc4, t4⟩)
                  | (go_at_call 155; refine (clipB_any _ a4 m c4 hc4).mono ?_; rintro e w5 ⟨rfl, rfl⟩))
                all_goals
                  have T4 := Lib.hid ((T3.out.trans T3d.out).trans t4)
                  have O4 := Lib.hid (o4.mono (base' := w.heap.size) (T3.out.trans T3d.out).size)
                  clear t4 o4 q1 k1d hc4
                  go_wp2
                  go_ret3
                  exact ⟨a4, m, by rw [hE.out, Pg.epochOf, if_pos hE.out, Hx1.out]; rfl, by rw [Pg.bodyOf, if_pos hE.out, Hq.out]; exact hql.out, ⟨c4, by rw [Pg.bodyOf, if_pos hE.out, Hq.out]; exact O4.out⟩, T4.out⟩
              · have hneq : ((x0 : Int) != (num : Int)) = true := by simp; omega
                have hF : Hid (Pg.err num b = 4) := by show _ = _; rw [Pg.err, if_pos hform.out, hright.out, Htd.out, if_neg (fun h => h rfl), Hx0.out, if_pos hnum]
                clear hnum
                go_wp2
                go_ret3
                exact pgGet_no hF.out (by decide) T3.out
          · have hneq : ((x : Int) != (td : Int)) = true := by simp; omega
            have hF : Hid (Pg.err num b = 11) := by show _ = _; rw [Pg.err, if_pos hform.out, hright.out, Htd.out, if_pos hst]
            clear hst
            go_wp2_with fail
            go_region_held3 (fun w' => w'.cell? ⟨L, 3, none⟩ = some (.int .u32 (td : Nat))) (first | exact q3 | exact k3d | exact (HK1.out _ (T1d.out.trans t2)).2.2.2 | exact (HK1.out _ ((T1d.out.trans t2).trans t3)).2.2.2) (first
              | (go_at_call 158; refine (CO.out _ (T1.out.trans T1d.out)).mono ?_; rintro e w2 ⟨rfl, t2⟩)
              | (go_at_call 163; refine (CN.out _ ((T1.out.trans T1d.out).trans t2)).mono ?_; rintro e w3 ⟨rfl, t3⟩))
            all_goals
              have T3 := Lib.hid (((T1.out.trans T1d.out).trans t2).trans t3)
              clear t2 t3 q0 q1 q2 q3 k3d
              go_wp2
              go_ret3
              exact pgGet_no hF.out (by decide) T3.out
      | succ g' =>
        have hk4 : (k : Int) < 4 := by omega
        have hk0 : (0 : Int) ≤ (k : Nat) := by omega
        obtain ⟨r, hr⟩ : ∃ r, 256 - 4 * k = r := ⟨_, rfl⟩
        have hcut : ∀ wx : World, (Instr.slice 22 (.slice a 256 c) (some (.int .i64 (4 * (k : Int)))) none none).run Tryz.prog wx = .ok (.slice (cutAddr a c (4 * k)) r (c - 4 * k)) wx := fun wx => by
          have := run_cut Tryz.underlying22 HI.out.1 HI.out.2 a 256 c (4 * k) .i64 (by omega) wx
          rw [hr, show ((4 * k : Nat) : Int) = 4 * (k : Int) by omega] at this; exact this
        obtain ⟨v, hv⟩ : ∃ v, Rt.unfour (b.drop (4 * k)) = v := ⟨_, rfl⟩
        have rk : Hid (Rd wr (cutAddr a c (4 * k)) (nums .u8 (b.drop (4 * k)))) := by
          have := (Hr.out.no TW.out).cut (cap := c) (l := 4 * k) (by rw [nums_length, Hb.out]; exact Hc.out)
          show Rd _ _ _
          rw [nums, List.map_drop]; exact this
        have lk : Hid ((b.drop (4 * k)).length = r) := by show _ = _; rw [List.length_drop, Hb.out, hr]
        have hr4 : 4 ≤ r := by omega
        have hr9 : (r : Int) ≤ 9223372036854775807 := by omega
        have hce := LL.out.cell k
        rw [nums_get (by rw [gotP_length (by omega)]; omega)] at hce
        have hso := LL.out.soft k
        have Hce := Lib.hid hce
        have Hso := Lib.hid hso
        have Hv := Lib.hid hv
        clear hce hso hv hr
        go_wp2_with fail
        refine (getFour_at wr _ r (c - 4 * k) (b.drop (4 * k)) v lk.out hr4 hr9 rk.out (fun x hx => Hlt.out x (List.mem_of_mem_drop hx)) Hv.out).mono ?_
        rintro e w3 ⟨rfl, t3⟩
        have c3 := t3.cell (id : No L → False) Hce.out
        have f3 := (t3.frozen (lt_of_cell Hce.out) id k).trans Hso.out
        have TT := Lib.hid ((T.out.then t3 (fun _ _ f => f.elim)).setCell (p := ⟨L, k, none⟩) (fun _ => rfl) (.int .u32 (v : Nat)))
        have LN : Hid (Row (w3.setCell ⟨L, k, none⟩ (.int .u32 (v : Nat))) L 179 (nums .u32 (gotP b (k + 1)))) := by
          have h1 := (LL.out.touch t3 id).setCell k (.int .u32 (v : Nat))
          show Row _ _ _ _
          rw [← gotP_next (by omega) Hv.out]; exact h1
        clear t3 hcut
        go_wp2
        go_roundg g'
        case measure => omega
        case rel => exact ⟨k + 1, by omega, by go_num, LN.out, TT.out⟩
  · have hne : ((n : Int) != 256) = true := by simp; omega
    have hF := Lib.hid (Pg.err_length (num := num) (b := b) (by omega))
    clear h256 hb hr hlt
    go_enter Tryz.func72, Tryz.ntmps72
    go_wp2
    go_ret3
    exact pgGet_no hF.out (by decide) (Touch.refl _ _)
end Go.Proofs.YtmjeigceclmdoaaGreatDoor
namespace Go.Proofs.YtmjeigceclmdoaaGreatDoor
open Go Go.RowKit
set_option linter.unusedSimpArgs false

def PagePut (w : World) (bs : List Nat) (e : Ending) (w' : World) : Prop :=
  ∃ a c, e = .returned (.tuple #[.slice a 256 c, .int .i64 0]) ∧ Own w' w.heap.size 5 (.slice a 256 c) (nums .u8 bs) ∧ Touch No w w'

set_option maxRecDepth 100000 in
theorem pagePut_no (w : World) (num epoch : Nat) (a : Option Addr) (n c : Nat) (hn : 240 < n) :
    Calls Tryz.prog 70 #[.int .u32 (num : Nat), .int .u32 (epoch : Nat), .slice a n c] w fun e w' => e = .returned (.tuple #[.slice none 0 0, .int .i64 1]) ∧ w = w' := by
  have hn' : (240 : Int) < (n : Nat) := by omega
  clear hn
  go_enter Tryz.func70, Tryz.ntmps70
  go_wp2
  go_ret2
  exact ⟨rfl, rfl⟩

set_option maxRecDepth 100000 in
set_option maxHeartbeats 8000000 in
theorem pagePut_any (w : World) (num epoch : Nat) (hnum : num < 4294967296) (hep : epoch < 4294967296) (a : Option Addr) (n c : Nat) (q : List Nat) (hq : q.length = n) (hn : n ≤ 240) (hr : Rd w a (nums .u8 q)) (hlt : ∀ x ∈ q, x < 256) :
    Calls Tryz.prog 70 #[.int .u32 (num : Nat), .int .u32 (epoch : Nat), .slice a n c] w (PagePut w (Pg.put num epoch q)) := by
  obtain ⟨I, hi0, hi1, hi2, hi3⟩ := u8_info
  have HI := Lib.hid (And.intro hi0 (And.intro hi1 (And.intro hi2 hi3)))
  obtain ⟨Z, hZ⟩ : ∃ Z, 240 - n = Z := ⟨_, rfl⟩
  have hmk : ∀ wx : World, (Instr.makeSlice 22 (.int .i64 (Z : Nat)) (.int .i64 (Z : Nat))).run Tryz.prog wx = .ok (.slice (some ⟨wx.heap.size, 0, none⟩) Z Z) (wx.alloc (.cells (List.replicate Z (Value.int .u8 0)).toArray 5)) := fun wx => by
    have := run_make (P := Tryz.prog) wx 22 5 I (.int .u8 0) Tryz.underlying22 hi0 hi1 .i64 .i64 (Z : Int) (Z : Int) (by omega) (by omega) (by rw [hi3]; omega) (by omega)
    rw [this, hi2, Int.toNat_natCast, Nat.mul_one]
    show Result.ok _ (wx.alloc (.cells (madeCells #[Value.int .u8 0] _) _)) = _
    rw [made_fill]
  have HMK := Lib.hid hmk
  have Hq := Lib.hid hq
  have Hr := Lib.hid hr
  have Hlt := Lib.hid hlt
  have hn' : ¬ (240 : Int) < (n : Nat) := by omega
  have hn9 : (n : Int) ≤ 240 := by omega
  have Hn := Lib.hid hn
  have HZ := Lib.hid hZ
  clear hmk hq hr hlt hi0 hi1 hi2 hi3 hn hZ
  go_enter Tryz.func70, Tryz.ntmps70
  go_wp2_with fail
  obtain ⟨W0, hW0⟩ : ∃ W0, W0 = w.alloc (.cells #[.int .u32 (num : Nat), .int .u32 (epoch : Nat), .int .u32 (n : Nat)] 23) := ⟨_, rfl⟩
  obtain ⟨G, hG⟩ : ∃ G, G = w.heap.size := ⟨_, rfl⟩
  have hrow : Row W0 G 23 [.int .u32 (num : Nat), .int .u32 (epoch : Nat), .int .u32 (n : Nat)] := by rw [hW0, hG]; exact Row.new w _ _
  have hT0 : Touch No w W0 := by rw [hW0]; exact (Touch.refl No w).alloc _
  have hW0s : G + 1 = W0.heap.size := by rw [hW0, hG]; simp
  have HRow := Lib.hid hrow
  have HT0 := Lib.hid hT0
  have HG := Lib.hid hG
  have HW0s := Lib.hid hW0s
  rw [← hW0, ← hG]
  clear hW0 hG hrow hT0 hW0s
  go_loopg [8, 21] 3 (fun g s8 s21 wr => ∃ (ab : Option Addr) (cb : Nat), Hid (Touch No W0 wr) ∧
    ((g = 3 ∧ s21 = .int .i64 0 ∧ s8 = .slice none 0 0) ∨ (g = 2 ∧ s21 = .int .i64 1 ∧ s8 = .slice ab 4 cb ∧ Hid (Own wr W0.heap.size 5 (.slice ab 4 cb) (nums .u8 (Rt.four num)))) ∨
     (g = 1 ∧ s21 = .int .i64 2 ∧ s8 = .slice ab 8 cb ∧ Hid (Own wr W0.heap.size 5 (.slice ab 8 cb) (nums .u8 (Rt.four num ++ Rt.four epoch)))) ∨ (g = 0 ∧ s21 = .int .i64 3 ∧ s8 = .slice ab 12 cb ∧ Hid (Own wr W0.heap.size 5 (.slice ab 12 cb) (nums .u8 (Pg.head num epoch q))))))
  case atStart => exact ⟨none, 0, Touch.refl _ _, .inl ⟨rfl, rfl, rfl⟩⟩
  case round =>
    obtain ⟨ab, cb, T, hrel⟩ := hrel
    have R := HRow.out.touch T.out id
    have k0 : wr.cell? ⟨G, 0, none⟩ = some (.int .u32 (num : Nat)) := R.cell 0
    have k1 : wr.cell? ⟨G, 1, none⟩ = some (.int .u32 (epoch : Nat)) := R.cell 1
    have k2 : wr.cell? ⟨G, 2, none⟩ = some (.int .u32 (n : Nat)) := R.cell 2
    clear R
    rcases hrel with ⟨rfl, rfl, rfl⟩ | ⟨rfl, rfl, rfl, O⟩ | ⟨rfl, rfl, rfl, O⟩ | ⟨rfl, rfl, rfl, O⟩
    · go_wp2_with fail
      refine (putFour_any _ none 0 0 [] rfl (Rd.nil _ _) num hnum (by decide) 4 rfl).mono ?_
      clear k0 k1 k2
      rintro e w1 ⟨a1, c1, rfl, o1, t1⟩
      have HO := Lib.hid (show Own w1 W0.heap.size 5 (.slice a1 4 c1) (nums .u8 (Rt.four num)) from o1.mono T.out.size)
      have HT := Lib.hid (T.out.trans t1)
      clear o1 t1
      go_wp2
      go_roundg 2
      case measure => omega
      case rel => exact ⟨a1, c1, HT.out, .inr (.inl ⟨rfl, rfl, rfl, HO.out⟩)⟩
    · go_wp2_with fail
      refine (putFour_any _ ab 4 cb (Rt.four num) rfl O.out.rd epoch hep (by decide) 8 rfl).mono ?_
      clear k0 k1 k2
      rintro e w1 ⟨a1, c1, rfl, o1, t1⟩
      have HO := Lib.hid (o1.mono (base' := W0.heap.size) T.out.size)
      have HT := Lib.hid (T.out.trans t1)
      clear o1 t1
      go_wp2
      go_roundg 1
      case measure => omega
      case rel => exact ⟨a1, c1, HT.out, .inr (.inr (.inl ⟨rfl, rfl, rfl, HO.out⟩))⟩
    · go_wp2_with fail
      refine (putFour_any _ ab 8 cb (Rt.four num ++ Rt.four epoch) rfl O.out.rd n (by omega) (by decide) 12 rfl).mono ?_
      clear k0 k1 k2
      rintro e w1 ⟨a1, c1, rfl, o1, t1⟩
      have e1 : Rt.four num ++ Rt.four epoch ++ Rt.four n = Pg.head num epoch q := by rw [Pg.head, Hq.out]
      rw [e1] at o1
      have HO := Lib.hid (o1.mono (base' := W0.heap.size) T.out.size)
      have HT := Lib.hid (T.out.trans t1)
      clear o1 t1 e1
      go_wp2
      go_roundg 0
      case measure => omega
      case rel => exact ⟨a1, c1, HT.out, .inr (.inr (.inr ⟨rfl, rfl, rfl, HO.out⟩))⟩
    · clear k0 k1 k2
      go_wp2_with fail
      refine (of_any _ ab 12 cb (Pg.head num epoch q) (Pg.head_length _ _ _) (by decide) O.out.rd (Pg.head_lt _ _ _)).mono ?_
      rintro e w1 ⟨rfl, t1⟩
      have HT1 := Lib.hid (T.out.trans t1)
      have HO1 := Lib.hid (O.out.touch t1 (fun _ _ _ f => f))
      clear t1 T O
      go_wp2_with fail
      refine (on_any _ (Rt.of (Pg.head num epoch q)) Rt.of_lt a n c q Hq.out (by omega) (Hr.out.no (HT0.out.trans HT1.out)) Hlt.out).mono ?_
      rintro e w2 ⟨rfl, t2⟩
      have HT2 := Lib.hid (HT1.out.trans t2)
      have HO2 := Lib.hid (HO1.out.touch t2 (fun _ _ _ f => f))
      clear t2 HT1 HO1
      go_wp2_with fail
      refine (putFour_any _ ab 12 cb (Pg.head num epoch q) (Pg.head_length _ _ _) HO2.out.rd (Rt.on (Rt.of (Pg.head num epoch q)) q) Rt.on_lt (by decide) 16 rfl).mono ?_
      rintro e w3 ⟨a3, c3, rfl, o3, t3⟩
      have HT3 := Lib.hid (HT2.out.trans t3)
      have HO3 := Lib.hid (o3.mono (base' := W0.heap.size) HT2.out.size)
      have hl16 : Hid ((nums .u8 (Pg.head num epoch q ++ Rt.four (Rt.on (Rt.of (Pg.head num epoch q)) q))).length = 16) := by show _ = _; rw [nums_length]; rfl
      clear t3 o3 HT2 HO2
      go_wp2_with (refine wpList_append_rd rfl _ _ _ rfl W0.heap.size 5 I (.int .u8 0) 1 Tryz.underlying22 HI.out.1 HI.out.2.1 HI.out.2.2.1 HI.out.2.2.2 rfl _ _ HO3.out rfl a n c (nums .u8 q) rfl (by rw [nums_length]; exact Hq.out) (Hr.out.no (HT0.out.trans HT3.out)) (nums_one _ _) (by rw [hl16.out]; unfold maxLen; omega) (by rw [hl16.out]; omega) HT3.out.size ?_)
      intro v4 w4 o4 t4
      obtain ⟨L, hL⟩ : ∃ L, 16 + n = L := ⟨_, rfl⟩
      have hlen4 : (nums .u8 (Pg.head num epoch q ++ Rt.four (Rt.on (Rt.of (Pg.head num epoch q)) q)) ++ nums .u8 q).length = L := by rw [List.length_append, hl16.out, nums_length, Hq.out]; exact hL
      obtain ⟨a4, c4, rfl, _⟩ := o4.form' (n := L) hlen4
      have HO4 := Lib.hid o4
      have HT4 := Lib.hid (HT3.out.then t4 (fun i hi e => absurd (HO3.out.block e).1 (Nat.not_le.2 hi)))
      have hZL : (256 : Int) - (L : Int) = (Z : Nat) := by have := HZ.out; have := Hn.out; omega
      have hZw : IntKind.i64.wrap ((256 : Int) - (L : Int)) = (Z : Nat) := by rw [hZL]; exact IntWalk.i64_in _ (by have := HZ.out; omega)
      have HL := Lib.hid hL
      have HLEN4 := Lib.hid hlen4
      have hmk := HMK.out
      have hL9 : (L : Int) ≤ 256 := by omega
      clear o4 t4 HO3 HT3 hl16 hL hlen4
      go_wp2_with fail
      clear hmk hZL hZw
      obtain ⟨W5, hW5⟩ : ∃ W5, W5 = w4.alloc (.cells (Array.replicate Z (Value.int .u8 0)) 5) := ⟨_, rfl⟩
      have hzero : Rd W5 (some ⟨w4.heap.size, 0, none⟩) (nums .u8 (List.replicate Z 0)) := by
        rw [hW5]
        have := rd_new w4 5 (Array.replicate Z (Value.int .u8 0)) (0, 0)
        rw [Array.toList_replicate] at this
        rw [nums, List.map_replicate]; exact this
      have hT5 : Touch No W0 W5 := by rw [hW5]; exact HT4.out.alloc _
      have hO5 : Rd W5 a4 (nums .u8 (Pg.head num epoch q ++ Rt.four (Rt.on (Rt.of (Pg.head num epoch q)) q) ++ q)) := by
        rw [hW5, nums_append]; exact HO4.out.rd.no ((Touch.refl No _).alloc _)
      have hs5 : w4.heap.size + 1 = W5.heap.size := by rw [hW5]; simp
      have HZ5 := Lib.hid hzero
      have HT5 := Lib.hid hT5
      have HO5 := Lib.hid hO5
      rw [← hW5]
      have hp1 : (W5.alloc (.cells #[.slice a4 L c4, .slice (some ⟨w4.heap.size, 0, none⟩) Z Z] 22)).cell? ⟨w4.heap.size + 1, 0, none⟩ = some (.slice a4 L c4) := by rw [hs5, cell_new]; rfl
      have hp2 : (W5.alloc (.cells #[.slice a4 L c4, .slice (some ⟨w4.heap.size, 0, none⟩) Z Z] 22)).cell? ⟨w4.heap.size + 1, 0 + 1, none⟩ = some (.slice (some ⟨w4.heap.size, 0, none⟩) Z Z) := by rw [hs5, cell_new]; rfl
      have HP := Lib.hid (And.intro hp1 hp2)
      clear hW5 hzero hT5 hO5 hs5 hp1 hp2
      refine (concatB_any _ (w4.heap.size + 1) 0 2 a4 L c4 _ (some ⟨w4.heap.size, 0, none⟩) Z Z _ HP.out.1 HP.out.2 (by rw [nums_append]; exact HLEN4.out) (by rw [nums_length, List.length_replicate]) (HO5.out.no ((Touch.refl No _).alloc _)) (HZ5.out.no ((Touch.refl No _).alloc _)) (nums_one _ _) (nums_one _ _) 256 (by have := HZ.out; have := HL.out; have := Hn.out; omega) (by decide)).mono ?_
      rintro e w6 ⟨a6, c6, rfl, o6, t6⟩
      have hT6 := HT0.out.trans ((HT5.out.alloc _).trans t6)
      have hv : nums .u8 (Pg.head num epoch q ++ Rt.four (Rt.on (Rt.of (Pg.head num epoch q)) q) ++ q) ++ nums .u8 (List.replicate Z 0) = nums .u8 (Pg.put num epoch q) := by
        rw [← nums_append, Pg.put, Pg.sum, Hq.out, HZ.out]
      rw [hv] at o6
      have HO6 := Lib.hid (o6.mono (base' := w.heap.size) (HT0.out.trans (HT5.out.alloc _)).size)
      have HT6 := Lib.hid hT6
      clear hT6 hv o6 t6 HO5 HZ5 HT5 HP HO4 HT4
      go_wp2
      go_ret2
      exact ⟨a6, c6, rfl, HO6.out, HT6.out⟩
end Go.Proofs.YtmjeigceclmdoaaGreatDoor
namespace Go.Proofs.YtmjeigceclmdoaaGreatDoor
open Go Go.RowKit
set_option linter.unusedSimpArgs false

namespace Rt
theorem half1_xor (a b : Nat) : half1 (a ^^^ b) = half1 a ^^^ half1 b := by
  have hd : (a ^^^ b) / 2 = a / 2 ^^^ b / 2 := by
    have := Nat.shiftRight_xor_distrib (a := a) (b := b) (i := 1)
    simpa [Nat.shiftRight_eq_div_pow] using this
  have hp : (a ^^^ b) % 2 = (a + b) % 2 := by
    have h := Nat.xor_mod_two_pow (a := a) (b := b) (n := 1)
    rw [Nat.pow_one] at h
    rw [h]
    rcases Nat.mod_two_eq_zero_or_one a with ha | ha <;> rcases Nat.mod_two_eq_zero_or_one b with hb | hb <;> rw [ha, hb]
    · show 0 = _; omega
    · show 1 = _; omega
    · show 1 = _; omega
    · show 0 = _; omega
  unfold half1
  by_cases h1 : a % 2 = 1
  · by_cases h2 : b % 2 = 1
    · rw [if_neg (by omega), if_pos h1, if_pos h2, hd]
      rw [Nat.xor_assoc, Nat.xor_comm 3988292384 (b / 2 ^^^ 3988292384), Nat.xor_assoc, Nat.xor_self, Nat.xor_zero]
    · rw [if_pos (by omega), if_pos h1, if_neg h2, hd]
      rw [Nat.xor_assoc, Nat.xor_assoc, Nat.xor_comm (b / 2)]
  · by_cases h2 : b % 2 = 1
    · rw [if_pos (by omega), if_neg h1, if_pos h2, hd, Nat.xor_assoc]
    · rw [if_neg (by omega), if_neg h1, if_neg h2, hd]
theorem halves_xor : ∀ (k a b : Nat), halves k (a ^^^ b) = halves k a ^^^ halves k b
  | 0, _, _ => rfl
  | k + 1, a, b => by rw [halves, half1_xor, halves_xor k]; rfl
theorem half1_even (m : Nat) : half1 (2 * m) = m := by unfold half1; rw [if_neg (by omega)]; omega
theorem halves_pow : ∀ (k m : Nat), halves k (2 ^ k * m) = m
  | 0, m => by simp [halves]
  | k + 1, m => by rw [halves, Nat.pow_succ, Nat.mul_comm (2 ^ k) 2, Nat.mul_assoc, half1_even, halves_pow k]
theorem low_high (r : Nat) : r = (r % 256) ^^^ (2 ^ 8 * (r / 256)) := by
  apply Nat.eq_of_testBit_eq
  intro i
  rw [Nat.testBit_xor, show (256 : Nat) = 2 ^ 8 from rfl, Nat.testBit_mod_two_pow, Nat.testBit_two_pow_mul]
  by_cases h : i < 8
  · simp [h, Nat.not_le.2 h]
  · have h8 : 8 ≤ i := by omega
    simp only [h, h8, decide_true, decide_false, Bool.false_and, Bool.true_and, Bool.false_xor]
    rw [Nat.testBit_div_two_pow, show i - 8 + 8 = i by omega]
theorem step_halves (r c : Nat) : halves 8 (r ^^^ c) = step r c := by
  have h : r ^^^ c = (r % 256 ^^^ c) ^^^ (2 ^ 8 * (r / 256)) := by
    have := low_high r
    calc r ^^^ c = ((r % 256) ^^^ (2 ^ 8 * (r / 256))) ^^^ c := by rw [← this]
      _ = _ := by rw [Nat.xor_assoc, Nat.xor_comm (2 ^ 8 * (r / 256)) c, Nat.xor_assoc]
  rw [h, halves_xor, halves_pow]; rfl
end Rt

set_option maxRecDepth 100000 in
set_option maxHeartbeats 4000000 in
theorem refOn_any (w : World) (sum : Nat) (hs : sum < 4294967296) (a : Option Addr) (n c : Nat) (b : List Nat) (hb : b.length = n) (hmax : (n : Int) ≤ 9223372036854775807) (hr : Rd w a (nums .u8 b)) (hlt : ∀ x ∈ b, x < 256) :
    Calls Tryz.prog 207 #[.int .u32 (sum : Nat), .slice a n c] w fun e w' => e = .returned (.int .u32 (Rt.on sum b : Nat)) ∧ w = w' := by
  have Hb := Lib.hid hb
  have Hr := Lib.hid hr
  have Hlt := Lib.hid hlt
  have hneg := xor_neg hs
  obtain ⟨ns, hns⟩ : ∃ ns, ns = Rt.neg sum := ⟨_, rfl⟩
  rw [← hns] at hneg
  have hn32 : ns < 4294967296 := by rw [hns]; exact Rt.neg_lt _
  have Hns := Lib.hid hns
  clear hns hb hr hlt
  go_enter Tryz.func207, Tryz.ntmps207
  go_wp2
  go_loopg [5, 6] n (fun g s5 s6 wr => ∃ (k r : Nat), k + g = n ∧ s6 = .int .i64 ((k : Nat) : Int) ∧ s5 = .int .u32 ((r : Nat) : Int) ∧ r < 4294967296 ∧ Hid (r = Rt.run ns (b.take k)) ∧ Hid (wr = w))
  case atStart => exact ⟨0, ns, by omega, rfl, rfl, hn32, rfl, rfl⟩
  case round =>
    obtain ⟨k, r, hkg, rfl, rfl, hr32, hr, hwr⟩ := hrel
    have hww : w = wr := hwr.out.symm
    clear hwr
    subst hww
    cases gk with
    | zero =>
      obtain rfl : k = n := by omega
      have hx := xor_neg hr32
      have hfin : Hid (Rt.neg r = Rt.on sum b) := by
        show _ = _
        rw [hr.out, Hns.out, List.take_of_length_le (by rw [Hb.out]; exact Nat.le_refl _)]; rfl
      obtain ⟨q, hq⟩ : ∃ q, Rt.neg r = q := ⟨_, rfl⟩
      rw [hq] at hx hfin
      clear hq hneg
      go_wp2
      go_ret
      exact ⟨by rw [← hfin.out]; rfl, rfl⟩
    | succ g =>
      have hlt : (k : Int) < (n : Nat) := by omega
      have hkb : k < b.length := by rw [Hb.out]; omega
      obtain ⟨gb, ob, rfl, hcb⟩ := Hr.out.num hkb
      have hc256 := Hlt.out (b.getD k 0) (by rw [List.getD_eq_getElem?_getD, List.getElem?_eq_getElem hkb]; exact List.getElem_mem hkb)
      have hnext : Hid (Rt.run ns (b.take (k + 1)) = Rt.step r (b.getD k 0)) := by
        show _ = _
        rw [List.take_succ_eq_append_getElem hkb, Rt.run_append, ← hr.out, List.getD_eq_getElem?_getD, List.getElem?_eq_getElem hkb]; rfl
      obtain ⟨x, hx⟩ : ∃ x, b.getD k 0 = x := ⟨_, rfl⟩
      rw [hx] at hcb hc256 hnext
      have hxx := u32_xor_nat r x hr32 (by omega)
      obtain ⟨z, hz⟩ : ∃ z, r ^^^ x = z := ⟨_, rfl⟩
      have hz32 : z < 4294967296 := by rw [← hz]; exact Nat.xor_lt_two_pow (n := 32) (by omega) (by omega)
      have Hz : Hid (Rt.halves 8 z = Rt.run ns (b.take (k + 1))) := by
        show _ = _
        rw [hnext.out, ← hz, Rt.step_halves]
      rw [hz] at hxx
      clear hx hkb hnext hz hneg
      go_wp2
      clear hxx hcb
      obtain ⟨wo, rfl⟩ : ∃ wo : World, wo = w := ⟨_, rfl⟩
      go_loopg [5, 7, 8] 8 (fun g' s5 s7 s8 wr => ∃ (i y : Nat), i + g' = 8 ∧ s7 = .int .i64 ((i : Nat) : Int) ∧ s5 = .int .u32 ((y : Nat) : Int) ∧ y < 4294967296 ∧ Hid (y = Rt.halves i z) ∧ Hid (wr = wo))
      case atStart => exact ⟨0, z, by omega, rfl, rfl, hz32, rfl, rfl⟩
      case round =>
        obtain ⟨i, y, hig, rfl, rfl, hy32, hy, hwr⟩ := hrel
        have hww : wo = wr := hwr.out.symm
        clear hwr
        subst hww
        cases gk with
        | zero =>
          obtain rfl : i = 8 := by omega
          have HN : Hid (y = Rt.run ns (b.take (k + 1))) := by show _ = _; rw [hy.out, Hz.out]
          go_wp2
          go_roundg g
          case measure => omega
          case rel => exact ⟨k + 1, y, by omega, by go_num, rfl, hy32, HN, rfl⟩
        | succ g' =>
          have hi8 : (i : Int) < 8 := by omega
          have hh32 := Rt.half1_lt hy32
          by_cases hp : y % 2 = 1
          · obtain ⟨q1, q2⟩ := half_one hy32 hp
            have HN : Hid (Rt.half1 y = Rt.halves (i + 1) z) := by show _ = _; rw [Rt.halves_succ, ← hy.out]
            obtain ⟨y', hy'⟩ : ∃ y', Rt.half1 y = y' := ⟨_, rfl⟩
            rw [hy'] at q2 HN hh32
            clear hp hy' hy
            go_wp2
            go_roundg g'
            case measure => omega
            case rel => exact ⟨i + 1, y', by omega, by go_num, rfl, hh32, HN, rfl⟩
          · obtain ⟨q1, _⟩ := half_nil hy32 (by omega)
            have HN : Hid (y / 2 = Rt.halves (i + 1) z) := by show _ = _; rw [Rt.halves_succ, ← hy.out, Rt.half1, if_neg hp]
            clear hp hy
            go_wp2
            go_roundg g'
            case measure => omega
            case rel => exact ⟨i + 1, y / 2, by omega, by go_num, by go_num, by omega, HN, rfl⟩
theorem refOf_any (w : World) (a : Option Addr) (n c : Nat) (b : List Nat) (hb : b.length = n) (hmax : (n : Int) ≤ 9223372036854775807) (hr : Rd w a (nums .u8 b)) (hlt : ∀ x ∈ b, x < 256) :
    Calls Tryz.prog 160 #[.slice a n c] w fun e w' => e = .returned (.int .u32 (Rt.of b : Nat)) ∧ w = w' := by
  have Hc := Lib.hid (refOn_any w 0 (by decide) a n c b hb hmax hr hlt)
  have hv : Hid (Rt.on 0 b = Rt.of b) := rfl
  clear hb hr hlt
  go_enter Tryz.func160, Tryz.ntmps160
  go_wp2_with fail
  refine Hc.out.mono ?_
  rintro e w2 ⟨rfl, rfl⟩
  rw [hv.out]
  go_wp2
  go_ret
  exact ⟨rfl, rfl⟩
end Go.Proofs.YtmjeigceclmdoaaGreatDoor
namespace Go.Proofs.YtmjeigceclmdoaaGreatDoor
open Go Go.RowKit
set_option linter.unusedSimpArgs false

set_option maxRecDepth 100000 in
theorem refPagePut_no (w : World) (num epoch : Nat) (a : Option Addr) (n c : Nat) (hn : 240 < n) :
    Calls Tryz.prog 71 #[.int .u32 (num : Nat), .int .u32 (epoch : Nat), .slice a n c] w fun e w' => e = .returned (.tuple #[.slice none 0 0, .int .i64 1]) ∧ w = w' := by
  have hn' : (240 : Int) < (n : Nat) := by omega
  clear hn
  go_enter Tryz.func71, Tryz.ntmps71
  go_wp2
  go_ret2
  exact ⟨rfl, rfl⟩

set_option maxRecDepth 100000 in
set_option maxHeartbeats 8000000 in
theorem refPagePut_any (w : World) (num epoch : Nat) (hnum : num < 4294967296) (hep : epoch < 4294967296) (a : Option Addr) (n c : Nat) (q : List Nat) (hq : q.length = n) (hn : n ≤ 240) (hr : Rd w a (nums .u8 q)) (hlt : ∀ x ∈ q, x < 256) :
    Calls Tryz.prog 71 #[.int .u32 (num : Nat), .int .u32 (epoch : Nat), .slice a n c] w (PagePut w (Pg.put num epoch q)) := by
  obtain ⟨I, hi0, hi1, hi2, hi3⟩ := u8_info
  have HI := Lib.hid (And.intro hi0 (And.intro hi1 (And.intro hi2 hi3)))
  have Hq := Lib.hid hq
  have Hr := Lib.hid hr
  have Hlt := Lib.hid hlt
  have hn' : ¬ (240 : Int) < (n : Nat) := by omega
  have hn9 : (n : Int) ≤ 240 := by omega
  have hn0 : (0 : Int) ≤ (n : Nat) := by omega
  have Hn := Lib.hid hn
  clear hq hr hlt hi0 hi1 hi2 hi3 hn
  go_enter Tryz.func71, Tryz.ntmps71
  go_wp2_with fail
  refine (refPutFour_any _ none 0 0 [] rfl (Rd.nil _ _) num hnum (by decide) 4 rfl).mono ?_
  rintro e w1 ⟨a1, c1, rfl, o1, t1⟩
  have O1 := Lib.hid (show Own w1 w.heap.size 5 (.slice a1 4 c1) (nums .u8 (Rt.four num)) from o1)
  have T1 := Lib.hid t1
  clear o1 t1
  go_wp2_with fail
  refine (refPutFour_any _ a1 4 c1 (Rt.four num) rfl O1.out.rd epoch hep (by decide) 8 rfl).mono ?_
  rintro e w2 ⟨a2, c2, rfl, o2, t2⟩
  have O2 := Lib.hid (o2.mono (base' := w.heap.size) T1.out.size)
  have T2 := Lib.hid (T1.out.trans t2)
  clear o2 t2 O1 T1
  go_wp2_with fail
  refine (refPutFour_any _ a2 8 c2 (Rt.four num ++ Rt.four epoch) rfl O2.out.rd n (by omega) (by decide) 12 rfl).mono ?_
  rintro e w3 ⟨a3, c3, rfl, o3, t3⟩
  have e1 : Rt.four num ++ Rt.four epoch ++ Rt.four n = Pg.head num epoch q := by rw [Pg.head, Hq.out]
  rw [e1] at o3
  have O3 := Lib.hid (o3.mono (base' := w.heap.size) T2.out.size)
  have T3 := Lib.hid (T2.out.trans t3)
  clear o3 t3 O2 T2 e1
  obtain ⟨L, hL⟩ : ∃ L, 12 + n = L := ⟨_, rfl⟩
  have L5 : Hid ((Pg.head num epoch q ++ q).length = L) := by show _ = _; rw [List.length_append, Pg.head_length, Hq.out]; exact hL
  have h12 : Hid ((nums .u8 (Pg.head num epoch q)).length = 12) := by show _ = _; rw [nums_length]; rfl
  have hL9 : (L : Int) ≤ 252 := by omega
  have HL := Lib.hid hL
  clear hL
  go_wp2_with (first
    | (at_builtin; refine wpList_append_rd rfl _ _ 22 rfl w3.heap.size 5 I (.int .u8 0) 1 Tryz.underlying22 HI.out.1 HI.out.2.1 HI.out.2.2.1 HI.out.2.2.2 rfl _ _ (Own.nil _ w3.heap.size 5) rfl a3 12 c3 (nums .u8 (Pg.head num epoch q)) rfl (by rw [nums_length]; rfl) O3.out.rd (nums_one _ _) (by show 0 + 12 ≤ maxLen; unfold maxLen; decide) (by decide) (Nat.le_refl _) ?_; intro v4 w4 o4 t4; have O4 := Lib.hid (show Own w4 w3.heap.size 5 v4 (nums .u8 (Pg.head num epoch q)) from o4); have T4 := Lib.hid (show Touch No w3 w4 from t4.mono (fun k _ h => by cases h)); clear o4 t4)
    | (at_builtin; refine wpList_append_rd rfl _ _ 22 rfl w3.heap.size 5 I (.int .u8 0) 1 Tryz.underlying22 HI.out.1 HI.out.2.1 HI.out.2.2.1 HI.out.2.2.2 rfl _ _ O4.out rfl a n c (nums .u8 q) rfl (by rw [nums_length]; exact Hq.out) (Hr.out.no (T3.out.trans T4.out)) (nums_one _ _) (by rw [h12.out]; unfold maxLen; omega) (by rw [h12.out]; omega) T4.out.size ?_; intro v5 w5 o5 t5; rw [← nums_append] at o5; obtain ⟨a5, c5, rfl, _⟩ := o5.form' (n := L) (by rw [nums_length]; exact L5.out); have O5 := Lib.hid o5; have T5 := Lib.hid (T4.out.then t5 (fun i hi e => absurd (O4.out.block e).1 (Nat.not_le.2 hi))); clear o5 t5 O4 T4))
  refine (refOf_any _ a5 L c5 (Pg.head num epoch q ++ q) L5.out (by omega) O5.out.rd (fun x hx => by
    rcases List.mem_append.1 hx with h | h
    · exact Pg.head_lt _ _ _ x h
    · exact Hlt.out x h)).mono ?_
  rintro e w6 ⟨rfl, rfl⟩
  have hS : Hid (Rt.of (Pg.head num epoch q ++ q) = Pg.sum num epoch q) := by
    show _ = _
    rw [Pg.sum]
    show Rt.on 0 _ = Rt.on (Rt.on 0 _) _
    rw [Rt.on_append _ _ _ (by decide) (Pg.head_lt _ _ _)]
  rw [hS.out]
  have T35 := Lib.hid (T3.out.trans T5.out)
  have O35 := Lib.hid (O3.out.touch T5.out (fun _ _ _ f => f))
  clear T5 O5 L5 O3 T3 hS HL
  go_wp2_with fail
  refine (refPutFour_any _ a3 12 c3 (Pg.head num epoch q) rfl O35.out.rd (Pg.sum num epoch q) (Pg.sum_lt _ _ _) (by decide) 16 rfl).mono ?_
  rintro e w7 ⟨a7, c7, rfl, o7, t7⟩
  have O7 := Lib.hid (o7.mono (base' := w.heap.size) T35.out.size)
  have T7 := Lib.hid (T35.out.trans t7)
  have h16 : Hid ((nums .u8 (Pg.head num epoch q ++ Rt.four (Pg.sum num epoch q))).length = 16) := by show _ = _; rw [nums_length]; rfl
  clear o7 t7 O35 T35
  obtain ⟨M, hM⟩ : ∃ M, 16 + n = M := ⟨_, rfl⟩
  obtain ⟨Z, hZ⟩ : ∃ Z, 240 - n = Z := ⟨_, rfl⟩
  have L8 : Hid ((nums .u8 (Pg.head num epoch q ++ Rt.four (Pg.sum num epoch q) ++ q)).length = M) := by show _ = _; rw [nums_append, List.length_append, h16.out, nums_length, Hq.out]; exact hM
  have hZL : (256 : Int) - (M : Int) = (Z : Nat) := by have := Hn.out; omega
  have hZw : IntKind.i64.wrap ((256 : Int) - (M : Int)) = (Z : Nat) := by rw [hZL]; exact IntWalk.i64_in _ (by omega)
  have hM9 : (M : Int) ≤ 256 := by omega
  have HZ := Lib.hid hZ
  have HZW := Lib.hid hZw
  have HZ9 : Hid (M + Z = 256) := by show _ = _; have := Hn.out; omega
  have hput : Hid (nums .u8 (Pg.head num epoch q ++ Rt.four (Pg.sum num epoch q) ++ q) ++ List.replicate Z (Value.int .u8 0) = nums .u8 (Pg.put num epoch q)) := by
    show _ = _
    rw [Pg.put, nums_append _ _ (List.replicate _ 0), Hq.out, HZ.out]
    congr 1
    simp [nums]
  clear hM hZ
  go_wp2_with (first
    | (at_builtin; refine wpList_append_rd rfl _ _ 22 rfl w.heap.size 5 I (.int .u8 0) 1 Tryz.underlying22 HI.out.1 HI.out.2.1 HI.out.2.2.1 HI.out.2.2.2 rfl _ _ O7.out rfl a n c (nums .u8 q) rfl (by rw [nums_length]; exact Hq.out) (Hr.out.no T7.out) (nums_one _ _) (by rw [h16.out]; unfold maxLen; omega) (by rw [h16.out]; omega) T7.out.size ?_; intro v8 w8 o8 t8; rw [← nums_append] at o8; obtain ⟨a8, c8, rfl, _⟩ := o8.form' (n := M) L8.out; have O8 := Lib.hid o8; have T8 := Lib.hid (T7.out.then t8 (fun i hi e => absurd (O7.out.block e).1 (Nat.not_le.2 hi))); clear o8 t8 O7 T7)
    | (at_builtin; (try rw [HZW.out]); refine wpList_append_zeros rfl _ _ _ _ rfl w.heap.size 5 I (.int .u8 0) (.int .u8 0) 1 Tryz.underlying22 Tryz.underlying3 HI.out.1 HI.out.2.1 HI.out.2.2.1 HI.out.2.2.2 rfl rfl _ _ O8.out rfl Z rfl (by rw [L8.out, HZ9.out]; unfold maxLen; decide) (by rw [L8.out, HZ9.out]; decide) T8.out.size ?_; intro v9 w9 o9 t9; rw [hput.out] at o9; obtain ⟨a9, c9, rfl, _⟩ := o9.form' (n := 256) (by rw [← hput.out, List.length_append, L8.out, List.length_replicate]; exact HZ9.out); have O9 := Lib.hid o9; have T9 := Lib.hid (T8.out.then t9 (fun i hi e => absurd (O8.out.block e).1 (Nat.not_le.2 hi))); clear o9 t9 O8 T8))
  go_ret2
  exact ⟨a9, c9, rfl, O9.out, T9.out⟩
end Go.Proofs.YtmjeigceclmdoaaGreatDoor
namespace Go.Proofs.YtmjeigceclmdoaaGreatDoor
open Go Go.RowKit
set_option linter.unusedSimpArgs false

theorem refGetFour_at (w : World) (a : Option Addr) (n c : Nat) (b : List Nat) (v : Nat) (hb : b.length = n) (h4 : 4 ≤ n) (hr : Rd w a (nums .u8 b)) (hlt : ∀ x ∈ b, x < 256) (hv : Rt.unfour b = v) :
    Calls Tryz.prog 25 #[.slice a n c] w fun e w' => e = .returned (.tuple #[.int .u32 (v : Nat), .int .i64 0]) ∧ w = w' := by
  subst hv
  refine (refGetFour_any w a n c b hb hr hlt).mono fun e w' ⟨he, t⟩ => ⟨?_, t⟩
  rw [if_neg (by omega), if_neg (by omega)] at he
  exact he

def RefGetPost (w : World) (num : Nat) (b : List Nat) (e : Ending) (w' : World) : Prop :=
  ∃ a n c, e = .returned (.tuple #[.int .u32 (Pg.epochOf num b : Nat), .slice a n c, .int .i64 (Pg.err num b : Nat)]) ∧ (Pg.bodyOf num b).length = n ∧ Own w' w.heap.size 5 (.slice a n c) (nums .u8 (Pg.bodyOf num b)) ∧ Touch No w w'
theorem refGet_no {w w' : World} {num : Nat} {b : List Nat} {E : Nat} (h : Pg.err num b = E) (h0 : E ≠ 0) (t : Touch No w w') : RefGetPost w num b (.returned (.tuple #[.int .u32 0, .slice none 0 0, .int .i64 (E : Nat)])) w' := by
  obtain ⟨h1, h2⟩ := Pg.err_no (num := num) (b := b) (by rw [h]; exact h0)
  exact ⟨none, 0, 0, by rw [h1, h]; rfl, by rw [h2]; rfl, by rw [h2]; exact Own.nil _ _ _, t⟩

set_option maxRecDepth 100000 in
set_option maxHeartbeats 4000000 in
theorem refPageGet_any (w : World) (num : Nat) (a : Option Addr) (n c : Nat) (b : List Nat) (hb : b.length = n) (hc : n ≤ c) (hr : Rd w a (nums .u8 b)) (hlt : ∀ x ∈ b, x < 256) :
    Calls Tryz.prog 73 #[.int .u32 (num : Nat), .slice a n c] w (RefGetPost w num b) := by
  by_cases h256 : n = 256
  · subst h256
    obtain ⟨I, hi0, hi1, hi2, hi3⟩ := u8_info
    have HI := Lib.hid (And.intro hi0 (And.intro hi1 (And.intro hi2 hi3)))
    have Hb := Lib.hid hb
    have Hr := Lib.hid hr
    have Hlt := Lib.hid hlt
    have Hc := Lib.hid hc
    have cut : ∀ l : Nat, l ≤ 256 → ∀ wx : World, (Instr.slice 22 (.slice a 256 c) (some (.int .i64 (l : Nat))) none none).run Tryz.prog wx = .ok (.slice (cutAddr a c l) (256 - l) (c - l)) wx := fun l hl wx => run_cut Tryz.underlying22 HI.out.1 HI.out.2.2.1 a 256 c l .i64 hl wx
    have hcut4 : ∀ wx : World, (Instr.slice 22 (.slice a 256 c) (some (.int .i64 4)) none none).run Tryz.prog wx = .ok (.slice (cutAddr a c 4) 252 (c - 4)) wx := cut 4 (by decide)
    have hcut8 : ∀ wx : World, (Instr.slice 22 (.slice a 256 c) (some (.int .i64 8)) none none).run Tryz.prog wx = .ok (.slice (cutAddr a c 8) 248 (c - 8)) wx := cut 8 (by decide)
    have hcut12 : ∀ wx : World, (Instr.slice 22 (.slice a 256 c) (some (.int .i64 12)) none none).run Tryz.prog wx = .ok (.slice (cutAddr a c 12) 244 (c - 12)) wx := cut 12 (by decide)
    have rk : Hid (∀ l, Rd w (cutAddr a c l) (nums .u8 (b.drop l))) := fun l => by
      have := Hr.out.cut (cap := c) (l := l) (by rw [nums_length, Hb.out]; exact Hc.out)
      rw [nums, List.map_drop]; exact this
    have ld : Hid (∀ l, (b.drop l).length = 256 - l) := fun l => by rw [List.length_drop, Hb.out]
    have hd : Hid (∀ l, ∀ x ∈ b.drop l, x < 256) := fun l x hx => Hlt.out x (List.mem_of_mem_drop hx)
    obtain ⟨x0, hx0⟩ : ∃ x0, Rt.unfour b = x0 := ⟨_, rfl⟩
    obtain ⟨x1, hx1⟩ : ∃ x1, Rt.unfour (b.drop 4) = x1 := ⟨_, rfl⟩
    obtain ⟨m, hm⟩ : ∃ m, Pg.many b = m := ⟨_, rfl⟩
    obtain ⟨td, htd⟩ : ∃ td, Pg.told b = td := ⟨_, rfl⟩
    have hm32 : m < 4294967296 := by rw [← hm]; exact Rt.unfour_lt (fun x hx => hd.out 8 x hx)
    have Hx0 := Lib.hid hx0
    have Hx1 := Lib.hid hx1
    have Hm := Lib.hid hm
    have Htd := Lib.hid htd
    clear hb hr hlt hc hi0 hi1 hi2 hi3 cut hx0 hx1 hm htd
    go_enter Tryz.func73, Tryz.ntmps73
    go_wp2_with fail
    refine (refGetFour_at _ a 256 c b x0 Hb.out (by decide) Hr.out Hlt.out Hx0.out).mono ?_
    rintro e wz ⟨rfl, rfl⟩
    go_wp2_with fail
    refine (refGetFour_at _ (cutAddr a c 4) 252 (c - 4) (b.drop 4) x1 (ld.out 4) (by decide) (rk.out 4) (hd.out 4) Hx1.out).mono ?_
    rintro e wz ⟨rfl, rfl⟩
    go_wp2_with fail
    refine (refGetFour_at _ (cutAddr a c 8) 248 (c - 8) (b.drop 8) m (ld.out 8) (by decide) (rk.out 8) (hd.out 8) Hm.out).mono ?_
    rintro e wz ⟨rfl, rfl⟩
    go_wp2_with fail
    refine (refGetFour_at _ (cutAddr a c 12) 244 (c - 12) (b.drop 12) td (ld.out 12) (by decide) (rk.out 12) (hd.out 12) Htd.out).mono ?_
    rintro e wz ⟨rfl, rfl⟩
    clear hcut4 hcut8 hcut12
    by_cases hm1 : 240 < m
    · have hm1' : (240 : Int) < (m : Nat) := by omega
      have hF : Hid (Pg.err num b = 4) := by show _ = _; rw [Pg.err, if_neg (fun h => by have := h.2.1; rw [Hm.out] at this; omega)]
      clear hm1
      go_wp2
      go_ret3
      exact refGet_no hF.out (by decide) (Touch.refl _ _)
    have hm1' : ¬ (240 : Int) < (m : Nat) := by omega
    have hmw : (m : Int) ≤ 240 := by omega
    have hm0 : (0 : Int) ≤ (m : Nat) := by omega
    clear hm1
    go_wp2
    go_loopg [15] (256 - (16 + m)) (fun g s15 wr => ∃ k : Nat, k + g = 256 ∧ s15 = .int .i64 ((k : Nat) : Int) ∧ 16 + m ≤ k ∧ Hid (Rt.nought (b.drop (16 + m)) = Rt.nought (b.drop k)) ∧ Hid (wr = w))
    case atStart => exact ⟨16 + m, by omega, by go_num, Nat.le_refl _, rfl, rfl⟩
    case round =>
      obtain ⟨k, hkg, rfl, hmk, HN, hwr⟩ := hrel
      have hww : w = wr := hwr.out.symm
      clear hwr
      subst hww
      cases gk with
      | zero =>
        obtain rfl : k = 256 := by omega
        have hform : Hid (Pg.form b) := ⟨Hb.out, by rw [Hm.out]; omega, by rw [Hm.out, HN.out, List.drop_of_length_le (by rw [Hb.out]; exact Nat.le_refl _)]; rfl⟩
        obtain ⟨q, hq⟩ : ∃ q, Pg.body b = q := ⟨_, rfl⟩
        have hql : Hid (q.length = m) := by show _ = _; rw [← hq, Pg.body_len0 hform.out, Hm.out]
        have hcut2 : ∀ wx : World, (Instr.slice 22 (.slice a 256 c) (some (.int .i64 16)) (some (.int .i64 (16 + (m : Int)))) none).run Tryz.prog wx = .ok (.slice (cutAddr a c 16) m (c - 16)) wx := fun wx => by
          have := run_cut2 Tryz.underlying22 HI.out.1 HI.out.2.2.1 a 256 c 16 (16 + m) .i64 .i64 (by omega) (by have := Hc.out; omega) wx
          rw [show 16 + m - 16 = m by omega, show ((16 + m : Nat) : Int) = 16 + (m : Int) by omega] at this; exact this
        have hhead : ∀ wx : World, (Instr.slice 22 (.slice a 256 c) none (some (.int .i64 12)) none).run Tryz.prog wx = .ok (.slice a 12 c) wx := fun wx => run_head Tryz.underlying22 HI.out.1 HI.out.2.2.1 a 256 c 12 .i64 (by have := Hc.out; omega) wx
        have rb : Hid (Rd w (cutAddr a c 16) (nums .u8 q)) := by
          have := (rk.out 16).take m
          show Rd _ _ _
          rw [← hq, Pg.body, Hm.out, nums, List.map_take]; exact this
        have rh : Hid (Rd w a (nums .u8 (b.take 12))) := by
          have := Hr.out.take 12
          show Rd _ _ _
          rw [nums, List.map_take]; exact this
        have lh : Hid ((nums .u8 (b.take 12)).length = 12) := by show _ = _; rw [nums_length, List.length_take, Hb.out]; rfl
        obtain ⟨x, hx⟩ : ∃ x, Rt.of (b.take 12 ++ q) = x := ⟨_, rfl⟩
        have hlt2 : Hid (∀ y ∈ b.take 12 ++ q, y < 256) := fun y hy => by
          rcases List.mem_append.1 hy with h | h
          · exact Hlt.out y (List.mem_of_mem_take h)
          · rw [← hq] at h; exact Hlt.out y (List.mem_of_mem_drop (List.mem_of_mem_take h))
        have hright : Hid (Pg.right b = x) := by
          show _ = _
          rw [Pg.right, hq, ← hx]
          show Rt.on (Rt.on 0 _) _ = Rt.on 0 _
          rw [Rt.on_append _ _ _ (by decide) (fun y hy => Hlt.out y (List.mem_of_mem_take hy))]
        have Hq := Lib.hid hq
        have Hx := Lib.hid hx
        obtain ⟨L, hL⟩ : ∃ L, 12 + m = L := ⟨_, rfl⟩
        have L5 : Hid ((b.take 12 ++ q).length = L) := by show _ = _; rw [List.length_append, List.length_take, Hb.out, hql.out]; exact hL
        have hL9 : (L : Int) ≤ 252 := by omega
        clear hq hx hL HN
        go_wp2_with (first
          | (at_builtin; refine wpList_append_rd rfl _ _ 22 rfl w.heap.size 5 I (.int .u8 0) 1 Tryz.underlying22 HI.out.1 HI.out.2.1 HI.out.2.2.1 HI.out.2.2.2 rfl _ _ (Own.nil _ w.heap.size 5) rfl (cutAddr a c 16) m (c - 16) (nums .u8 q) rfl (by rw [nums_length]; exact hql.out) rb.out (nums_one _ _) (by simp; unfold maxLen; omega) (by simp; omega) (Nat.le_refl _) ?_; intro v3 w3 o3 t3; obtain ⟨a3, c3, rfl, _⟩ := o3.form' (n := m) (by rw [List.nil_append, nums_length]; exact hql.out); have O3 := Lib.hid (show Own w3 w.heap.size 5 (.slice a3 m c3) (nums .u8 q) from o3); have T3 := Lib.hid (show Touch No w w3 from t3.mono (fun k _ h => by cases h)); clear o3 t3)
          | (at_builtin; refine wpList_append_rd rfl _ _ 22 rfl w3.heap.size 5 I (.int .u8 0) 1 Tryz.underlying22 HI.out.1 HI.out.2.1 HI.out.2.2.1 HI.out.2.2.2 rfl _ _ (Own.nil _ w3.heap.size 5) rfl a 12 c (nums .u8 (b.take 12)) rfl lh.out (rh.out.no T3.out) (nums_one _ _) (by show 0 + 12 ≤ maxLen; unfold maxLen; decide) (by decide) (Nat.le_refl _) ?_; intro v4 w4 o4 t4; have O4 := Lib.hid (show Own w4 w3.heap.size 5 v4 (nums .u8 (b.take 12)) from o4); have T4 := Lib.hid (show Touch No w3 w4 from t4.mono (fun k _ h => by cases h)); clear o4 t4)
          | (at_builtin; refine wpList_append_rd rfl _ _ 22 rfl w3.heap.size 5 I (.int .u8 0) 1 Tryz.underlying22 HI.out.1 HI.out.2.1 HI.out.2.2.1 HI.out.2.2.2 rfl _ _ O4.out rfl a3 m c3 (nums .u8 q) rfl (by rw [nums_length]; exact hql.out) (O3.out.rd.no T4.out) (nums_one _ _) (by rw [lh.out]; unfold maxLen; omega) (by rw [lh.out]; omega) T4.out.size ?_; intro v5 w5 o5 t5; rw [← nums_append] at o5; obtain ⟨a5, c5, rfl, _⟩ := o5.form' (n := L) (by rw [nums_length]; exact L5.out); have O5 := Lib.hid o5; have T5 := Lib.hid (T4.out.then t5 (fun i hi e => absurd (O4.out.block e).1 (Nat.not_le.2 hi))); clear o5 t5 O4 T4))
        refine (refOf_any _ a5 L c5 (b.take 12 ++ q) L5.out (by omega) O5.out.rd hlt2.out).mono ?_
        rintro e w6 ⟨rfl, rfl⟩
        rw [Hx.out]
        have T35 := Lib.hid (T3.out.trans T5.out)
        have O35 := Lib.hid (O3.out.touch T5.out (fun _ _ _ f => f))
        clear T3 T5 O3 O5 hcut2 hhead
        by_cases hst : x = td
        · subst hst
          by_cases hnum : x0 = num
          · subst hnum
            have hE : Hid (Pg.err x0 b = 0) := by show _ = _; rw [Pg.err, if_pos hform.out, hright.out, Htd.out, if_neg (fun h => h rfl), Hx0.out, if_neg (fun h => h rfl)]
            go_wp2
            go_ret3
            exact ⟨a3, m, c3, by rw [hE.out, Pg.epochOf, if_pos hE.out, Hx1.out]; rfl, by rw [Pg.bodyOf, if_pos hE.out, Hq.out]; exact hql.out, by rw [Pg.bodyOf, if_pos hE.out, Hq.out]; exact O35.out, T35.out⟩
          · have hneq : ((x0 : Int) != (num : Int)) = true := by simp; omega
            have hF : Hid (Pg.err num b = 4) := by show _ = _; rw [Pg.err, if_pos hform.out, hright.out, Htd.out, if_neg (fun h => h rfl), Hx0.out, if_pos hnum]
            clear hnum
            go_wp2
            go_ret3
            exact refGet_no hF.out (by decide) T35.out
        · have hneq : ((x : Int) != (td : Int)) = true := by simp; omega
          have hF : Hid (Pg.err num b = 11) := by show _ = _; rw [Pg.err, if_pos hform.out, hright.out, Htd.out, if_pos hst]
          clear hst
          go_wp2
          go_ret3
          exact refGet_no hF.out (by decide) T35.out
      | succ g =>
        have hlt' : (k : Int) < 256 := by omega
        have hkb : k < b.length := by rw [Hb.out]; omega
        obtain ⟨gb, ob, hae, hcb⟩ := Hr.out.num hkb
        subst hae
        have Hnx := Lib.hid (nought_drop hkb)
        obtain ⟨y, hy⟩ : ∃ y, b.getD k 0 = y := ⟨_, rfl⟩
        rw [hy] at hcb Hnx
        clear hy hkb
        by_cases hy0 : y = 0
        · subst hy0
          have HN2 : Hid (Rt.nought (b.drop (16 + m)) = Rt.nought (b.drop (k + 1))) := by show _ = _; rw [HN.out, Hnx.out]; simp
          clear HN Hnx
          go_wp2
          go_roundg g
          case measure => omega
          case rel => exact ⟨k + 1, by omega, by go_num, by omega, HN2, rfl⟩
        · have hne : ((y : Int) != 0) = true := by simp; omega
          have hF : Hid (Pg.err num b = 4) := by
            show _ = _
            rw [Pg.err, if_neg (fun h => by
              have := h.2.2
              rw [Hm.out, HN.out, Hnx.out, beq_eq_false_iff_ne.2 hy0] at this
              cases this)]
          clear hy0 HN Hnx
          go_wp2
          go_ret3
          exact refGet_no hF.out (by decide) (Touch.refl _ _)
  · have hne : ((n : Int) != 256) = true := by simp; omega
    have hF := Lib.hid (Pg.err_length (num := num) (b := b) (by omega))
    clear h256 hb hr hlt
    go_enter Tryz.func73, Tryz.ntmps73
    go_wp2
    go_ret3
    exact refGet_no hF.out (by decide) (Touch.refl _ _)
end Go.Proofs.YtmjeigceclmdoaaGreatDoor
