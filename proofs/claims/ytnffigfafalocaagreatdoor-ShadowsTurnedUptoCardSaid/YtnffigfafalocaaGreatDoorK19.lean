/-
  Package frees by its own text, fourth part: New, Take.
  Package frees by its own text, fifth part: New.
  Package frees by its own text, sixth part: Give.
  A row of a call's own, as a part.
  A map of pages as a part beside others.
-/
import Derived.Test.YtnffigfafalocaaGreatDoorK18
import Derived.Deep.LoopGhost
import Derived.Test.YtnffigfafalocaaGreatDoorK07
import Derived.Test.YtnffigfafalocaaGreatDoorK08
namespace Go.Proofs.YtnffigfafalocaaGreatDoor
open Go.RowKit

theorem info_u32 : (Tryz.prog.info? 38).map (fun i => (i.zero, i.size, i.bytes)) = some (some (.int .u32 0), 1, 4) := by kernel_rfl

theorem tab_ne {w : World} {b first last : Nat} {S : Nat → Bool} (h : MapAt w b first last S) (hT : TabAt w) : 1 ≠ b := by
  rintro rfl
  have := hT 0 (by decide)
  rw [h.made] at this
  simp at this
theorem TabAt.touch {F : Nat → Prop} {w w' : World} (h : TabAt w) (t : Touch F w w') (hF : ¬ F 1) : TabAt w' := fun j hj => t.cell hF (h j hj)

set_option maxHeartbeats 400000 in
theorem take_bad (w : World) (b first last : Nat) (S : Nat → Bool) (n : Int) (h : MapAt w b first last S) (hn : n < 0) :
    Calls Tryz.prog 50 #[.pointer (some ⟨b, 0, none⟩), .int .i64 n] w fun e w' => e = .returned (.tuple #[.slice none 0 0, .int .i64 1]) ∧ w = w' := by
  have H := Lib.hid h; clear h
  go_enter Tryz.func50, Tryz.ntmps50
  go_wp2_with fail
  go_step3
  go_wp2_with (go_at_call 137; refine (there_map _ _ _ _ _ H.out).mono ?_; rintro e w' ⟨rfl, rfl⟩)
  rw [Exit.noGoto_ret]
  go_ret2
  exact ⟨rfl, rfl⟩

set_option maxHeartbeats 400000 in
theorem take_full (w : World) (b first last : Nat) (S : Nat → Bool) (n : Int) (h : MapAt w b first last S) (hn : (Fr.lst S).length < n) :
    Calls Tryz.prog 50 #[.pointer (some ⟨b, 0, none⟩), .int .i64 n] w fun e w' => e = .returned (.tuple #[.slice none 0 0, .int .i64 6]) ∧ w = w' := by
  have H := Lib.hid h
  have hm := h.many; clear h
  generalize (Fr.lst S).length = k at *
  have h0 : 0 ≤ n := by omega
  go_enter Tryz.func50, Tryz.ntmps50
  go_wp2_with fail
  go_step3
  go_wp2_with (go_at_call 137; refine (there_map _ _ _ _ _ H.out).mono ?_; rintro e w' ⟨rfl, rfl⟩)
  rw [Exit.noGoto_ret]
  go_ret2
  exact ⟨rfl, rfl⟩

theorem turn_at (w : World) (b first last p : Nat) (S : Nat → Bool) (q : Int) (h : MapAt w b first last S) (hr : first ≤ p ∧ p < last) (hq : q = (p : Nat)) :
    Calls Tryz.prog 139 #[.pointer (some ⟨b, 0, none⟩), .int .u32 q] w fun e w' => e = .returned (.tuple #[]) ∧ Touch (One b) w w' ∧ MapAt w' b first last (Fr.flip S p) := by
  subst hq; exact turn_any w b first last p S h hr
theorem tz_at (x : Nat) (q : Int) (hx : x < 18446744073709551616) (hx0 : x ≠ 0) (w : World) (hT : TabAt w) (hq : q = (x : Nat)) :
    Calls Tryz.prog 138 #[.int .u64 q] w fun e w' => (∃ t m : Nat, t < 64 ∧ x = 2 ^ t * (2 * m + 1) ∧ e = .returned (.int .i64 t)) ∧ w = w' := by
  subst hq
  obtain ⟨t, m, ht, hm, hc⟩ := tz_any x hx hx0 w hT
  exact hc.mono fun e w' ⟨he, hw⟩ => ⟨⟨t, m, ht, hm, he⟩, hw⟩

/-- what Take leaves -/
def TakePost (w : World) (b first last : Nat) (S : Nat → Bool) (n : Nat) (e : Ending) (w' : World) : Prop :=
  ∃ v, e = .returned (.tuple #[v, .int .i64 0]) ∧ Own w' w.heap.size 38 v (nums .u32 ((Fr.lst S).take n)) ∧ Touch (One b) w w' ∧ MapAt w' b first last (Fr.sub S ((Fr.lst S).take n))

/-- k are taken, none is left below word i -/
structure TakeInv (w : World) (b first last : Nat) (S : Nat → Bool) (n k i : Nat) (v : Value) (wr : World) : Prop where
  le : k ≤ n
  map : MapAt wr b first last (Fr.sub S ((Fr.lst S).take k))
  own : Own wr w.heap.size 38 v (nums .u32 ((Fr.lst S).take k))
  touch : Touch (One b) w wr
  gone : ∀ p, p < 64 * i → Fr.sub S ((Fr.lst S).take k) p = false

theorem TakeInv.done {w : World} {b first last : Nat} {S : Nat → Bool} {n k i : Nat} {v : Value} {wr : World} (h : TakeInv w b first last S n k i v wr) (hk : k = n) :
    TakePost w b first last S n (.returned (.tuple #[v, .int .i64 0])) wr := by subst hk; exact ⟨v, rfl, h.own, h.touch, h.map⟩
theorem TakeInv.all {w : World} {b first last : Nat} {S : Nat → Bool} {n k : Nat} {v : Value} {wr : World} (h : TakeInv w b first last S n k 64 v wr) (hn : n ≤ (Fr.lst S).length) :
    TakePost w b first last S n (.returned (.tuple #[v, .int .i64 0])) wr := by
  refine h.done ?_
  have h0 : (Fr.lst S).drop k = [] := by
    rw [← Fr.lst_sub_take]
    refine List.eq_nil_iff_forall_not_mem.2 (fun p hp => ?_)
    obtain ⟨h1, h2⟩ := Fr.mem_lst.1 hp
    rw [h.gone p (by omega)] at h2
    cases h2
  have := List.drop_eq_nil_iff.1 h0
  have := h.le
  omega
theorem TakeInv.skip {w : World} {b first last : Nat} {S : Nat → Bool} {n k i : Nat} {v : Value} {wr : World} (h : TakeInv w b first last S n k i v wr) (hz : Fr.Word 0 (Fr.sub S ((Fr.lst S).take k)) i) :
    TakeInv w b first last S n k (i + 1) v wr :=
  ⟨h.le, h.map, h.own, h.touch, fun p hp => by
    by_cases h1 : p < 64 * i
    · exact h.gone p h1
    · have := hz.zero.1 rfl (p - 64 * i) (by omega)
      rwa [show 64 * i + (p - 64 * i) = p from by omega] at this⟩
/-- the next one -/
theorem TakeInv.next {w : World} {b first last : Nat} {S : Nat → Bool} {n k i x t m : Nat} {v : Value} {wr : World} (h : TakeInv w b first last S n k i v wr) (hi : i < 64) (hw : Fr.Word x (Fr.sub S ((Fr.lst S).take k)) i) (ht : t < 64)
    (hx : x = 2 ^ t * (2 * m + 1)) :
    first ≤ i * 64 + t ∧ i * 64 + t < last ∧ i * 64 + t < 4096 ∧ (Fr.lst S).take (k + 1) = (Fr.lst S).take k ++ [i * 64 + t] ∧ Fr.flip (Fr.sub S ((Fr.lst S).take k)) (i * 64 + t) = Fr.sub S ((Fr.lst S).take (k + 1)) ∧
    (∀ p, p < 64 * i → Fr.sub S ((Fr.lst S).take (k + 1)) p = false) := by
  obtain ⟨hb, hl⟩ := Fr.least_bit hx
  have hS : Fr.sub S ((Fr.lst S).take k) (i * 64 + t) = true := by rw [Nat.mul_comm, ← hw.2 t ht]; exact hb
  have hr := h.map.rng _ hS
  have hleast : ∀ q, q < i * 64 + t → Fr.sub S ((Fr.lst S).take k) q = false := by
    intro q hq
    by_cases h1 : q < 64 * i
    · exact h.gone q h1
    · have := hl (q - 64 * i) (by omega)
      rw [hw.2 _ (by omega)] at this
      rwa [show 64 * i + (q - 64 * i) = q from by omega] at this
  have hc := Fr.lst_cons (by omega) hS hleast
  rw [Fr.lst_sub_take] at hc
  have htake : (Fr.lst S).take (k + 1) = (Fr.lst S).take k ++ [i * 64 + t] := by
    have h0 : (Fr.lst S)[k]? = some (i * 64 + t) := by
      have := congrArg (fun l => l[0]?) hc
      simpa [List.getElem?_drop] using this
    rw [List.take_add_one, h0]; rfl
  refine ⟨hr.1, hr.2, by omega, htake, ?_, fun p hp => ?_⟩
  · rw [Fr.flip_sub hS, htake]
  · rw [htake, ← Fr.flip_sub hS]
    have := h.gone p hp
    simp only [Fr.flip]
    rw [if_neg (by omega)]; exact this

set_option maxRecDepth 100000 in
set_option maxHeartbeats 1000000 in
theorem take_ok (w : World) (b first last : Nat) (S : Nat → Bool) (n : Nat) (h : MapAt w b first last S) (hT : TabAt w) (hn : n ≤ (Fr.lst S).length) :
    Calls Tryz.prog 50 #[.pointer (some ⟨b, 0, none⟩), .int .i64 (n : Nat)] w (TakePost w b first last S n) := by
  have H := Lib.hid h
  have hm := h.many
  have hlen := Fr.lst_length_le S
  have hn4 : n ≤ 4096 := by omega
  have Hbne := Lib.hid (tab_ne h hT)
  have Hlt := Lib.hid h.lt
  clear h
  obtain ⟨i0, hi, hz0, hz1, hz2⟩ := info_parts info_u32
  have HT := Lib.hid hT; clear hT
  have HN := Lib.hid hn; clear hn
  have hle : ¬ ((Fr.lst S).length : Int) < (n : Int) := by have := HN.out; omega
  obtain ⟨L, hL⟩ : ∃ L, (Fr.lst S).length = L := ⟨_, rfl⟩
  rw [hL] at hm hlen hle
  have HL := Lib.hid hL; clear hL
  go_enter Tryz.func50, Tryz.ntmps50
  go_wp2_with fail
  go_step3
  go_wp2_with (first
    | (go_at_call 137; refine (there_map _ _ _ _ _ H.out).mono ?_; rintro e w' ⟨rfl, rfl⟩)
    | (at_make; refine wpList_make_own _ rfl _ _ _ rfl w.heap.size _ i0 _ 1 Tryz.underlying86 hi hz0 hz1 .i64 .i64 _ n rfl rfl rfl (by rw [hz2]; omega) (by unfold maxLen; omega) (Nat.le_refl _) ?_; intro w1 hown hgrow))
  have ht1 : Touch (One b) w w1 := (Touch.refl _ _).grown hgrow (by intro k hk; cases hk)
  have I0 : Hid (TakeInv w b first last S n 0 0 (.slice (some ⟨w.heap.size, 0, none⟩) 0 n) w1) :=
    ⟨Nat.zero_le _, by rw [List.take_zero, Fr.sub_nil]; exact H.out.touch ((Touch.refl No w).grown hgrow (by intro k hk; cases hk)) (fun f => f), hown, ht1, fun p hp => by omega⟩
  clear hown hgrow ht1
  go_step3
  go_wp2
  go_loopg [6, 25] 64 (fun g s6 s25 wr => ∃ i k, i + g = 64 ∧ s25 = .int .i64 ((i : Nat) : Int) ∧ Hid (TakeInv w b first last S n k i s6 wr))
  case atStart => exact ⟨0, 0, rfl, rfl, I0⟩
  case round =>
    obtain ⟨i, k, hig, rfl, I⟩ := hrel
    clear I0 hle hm
    cases gk with
    | zero =>
      obtain rfl : i = 64 := by omega
      go_wp2
      go_ret2
      exact I.out.all HN.out
    | succ g =>
      have hi64 : (i : Int) < 64 := by omega
      go_wp2
      obtain ⟨wo, hwo⟩ : ∃ wo : World, wo = wr := ⟨_, rfl⟩
      have hkn := I.out.le
      go_loopg [6] (n - k) (fun g' s6 wr => ∃ k, k + g' = n ∧ Hid (TakeInv w b first last S n k i s6 wr))
      case atStart => exact ⟨k, by omega, I⟩
      case round =>
        clear I hwo hkn
        obtain ⟨k, hkg, I⟩ := hrel
        obtain ⟨x, hx, hw⟩ := I.out.map.word i (by omega)
        have Hw := Lib.hid hw; clear hw
        by_cases hx0 : x = 0
        · subst hx0
          go_wp2
          go_roundg g
          case measure => omega
          case rel => exact ⟨i + 1, k, by omega, by go_num, I.out.skip Hw.out⟩
        · have htest : ((x : Int) != 0) = true := by simp; omega
          have Hx0 := Lib.hid hx0; clear hx0
          have hlenk : (nums .u32 ((Fr.lst S).take k)).length = k := by rw [nums_length, List.length_take]; have := HN.out; omega
          obtain ⟨a, cap, rfl, hcap, hrd, hbase, hmax⟩ := I.out.own.form' hlenk
          cases gk with
          | zero =>
            obtain rfl : k = n := by omega
            clear hrd hbase
            have Hlk := Lib.hid hlenk; clear hlenk
            go_wp2
            go_ret2
            exact I.out.done rfl
          | succ g' =>
            have hkn : (k : Int) < n := by omega
            have htest2 : ((k : Int) == (n : Int)) = false := by rw [beq_eq_false_iff_ne]; omega
            have htab : TabAt wr := HT.out.touch I.out.touch (fun e => Hbne.out e)
            have Htab := Lib.hid htab; clear htab
            have Hlk := Lib.hid hlenk; clear hlenk
            clear hrd hbase
            go_wp2_with fail
            refine (tz_at x _ Hw.out.1 Hx0.out _ Htab.out rfl).mono ?_
            rintro e w' ⟨⟨t, m, ht, hxm, rfl⟩, rfl⟩
            have Hxm := Lib.hid hxm; clear hxm
            have hN := I.out.next (by omega) Hw.out ht Hxm.out
            have Hr := Lib.hid (And.intro hN.1 hN.2.1)
            have hp4 := hN.2.2.1
            have HN' := Lib.hid hN; clear hN
            have Hm := Lib.hid I.out.map
            go_wp2_with fail
            refine (turn_at _ _ _ _ (i * 64 + t) _ _ Hm.out Hr.out (by omega)).mono ?_
            rintro e w2 ⟨rfl, ht2, hm2⟩
            have Ht2 := Lib.hid ht2; clear ht2
            have Hm2 := Lib.hid hm2; clear hm2
            have Hown2 := Lib.hid (I.out.own.touch Ht2.out (fun q hq _ e => by have := Hlt.out; simp only [One] at e; omega))
            have Hs2 : Hid (w.heap.size ≤ w2.heap.size) := Nat.le_trans I.out.touch.size Ht2.out.size
            go_wp2_with (at_builtin; refine wpList_append1 rfl _ _ _ rfl w.heap.size _ i0 _ 4 Tryz.underlying86 hi hz0 hz1 hz2 rfl _ _ _ Hown2.out rfl rfl rfl (by rw [Hlk.out]; unfold maxLen; omega) (by rw [Hlk.out]; omega) Hs2.out ?_; intro v' w3 hown3 ht3)
            go_roundg g'
            case measure => omega
            case rel =>
              refine ⟨k + 1, by omega, ?_⟩
              obtain ⟨_, _, _, htk, hfl, hgone⟩ := HN'.out
              refine ⟨by omega, ?_, ?_, ?_, hgone⟩
              · rw [← hfl]; exact Hm2.out.touch ht3 (fun e => by have := (Hown2.out.block e).1; have := Hlt.out; omega)
              · have e : nums .u32 ((Fr.lst S).take (k + 1)) = nums .u32 ((Fr.lst S).take k) ++ [Value.int .u32 (((i : Nat) : Int) * 64 + ((t : Nat) : Int))] := by rw [htk, nums_append]; simp [nums]
                rw [e]; exact hown3
              · exact (I.out.touch.trans Ht2.out).then ht3 (fun q hq e => absurd ((Hown2.out.block e).1) (by omega))
end Go.Proofs.YtnffigfafalocaaGreatDoor
namespace Go.Proofs.YtnffigfafalocaaGreatDoor
open Go.RowKit

def zMap : Array Value := #[.int .i64 0, .int .i64 0, .int .i64 0] ++ Array.replicate 64 (.int .u64 0) ++ #[.int .i64 0]
theorem zMap_zero (w : World) : (zeroValue 189).run Tryz.prog w = .ok (.agg zMap) w := by kernel_rfl
theorem zMap_size : zMap.size = 68 := rfl
theorem zMap_ne : ¬ zMap = #[] := by intro h; have := congrArg Array.size h; rw [zMap_size] at this; cases this
def mapCells (f l : Int) : Array Value := ((zMap.setIfInBounds 0 (.int .i64 1)).setIfInBounds 1 (.int .i64 f)).setIfInBounds 2 (.int .i64 l)

/-- the pages from first on, below n -/
def upTo (first n : Nat) : Nat → Bool := fun p => decide (first ≤ p) && decide (p < n)
theorem upTo_none (first : Nat) (i : Nat) : Fr.Word 0 (upTo first first) i := ⟨by decide, fun j _ => by
  have : upTo first first (64 * i + j) = false := by simp only [upTo, Bool.and_eq_false_iff, decide_eq_false_iff_not]; omega
  rw [this]; simp⟩
theorem upTo_next {first n : Nat} (h : first ≤ n) : Fr.flip (upTo first n) n = upTo first (n + 1) := by
  funext p
  simp only [Fr.flip, upTo]
  by_cases e : p = n
  · subst e; simp [h]
  · rw [if_neg e]; congr 1; rw [Bool.eq_iff_iff]; simp; omega

theorem map_new (w : World) (first last : Nat) (hl : last ≤ 4096) : MapAt (w.alloc (.cells (mapCells first last) 189)) w.heap.size first last (upTo first first) := by
  have c : ∀ o, (w.alloc (.cells (mapCells first last) 189)).cell? ⟨w.heap.size, o, none⟩ = (mapCells first last)[o]? := fun o => cell_new _ _ _ _ _
  have hlst : Fr.lst (upTo first first) = [] := by
    refine List.eq_nil_iff_forall_not_mem.2 (fun p hp => ?_)
    have := (Fr.mem_lst.1 hp).2
    simp only [upTo, Bool.and_eq_true, decide_eq_true_eq] at this
    omega
  have m0 : (mapCells first last)[0]? = some (.int .i64 1) := by kernel_rfl
  have m1 : (mapCells first last)[1]? = some (.int .i64 first) := by kernel_rfl
  have m2 : (mapCells first last)[2]? = some (.int .i64 last) := by kernel_rfl
  have m67 : (mapCells first last)[67]? = some (.int .i64 0) := by kernel_rfl
  refine ⟨by rw [c, m0], by rw [c, m1], by rw [c, m2], fun i hi => ⟨0, ?_, upTo_none _ _⟩, by rw [c, hlst, m67]; simp, fun o => frozen_new _ _ _ _, hl, fun p hp => ?_⟩
  · rw [c]
    simp only [mapCells]
    rw [Array.getElem?_setIfInBounds_ne (by omega), Array.getElem?_setIfInBounds_ne (by omega), Array.getElem?_setIfInBounds_ne (by omega)]
    simp only [zMap]
    rw [Array.getElem?_append_left (by simp; omega), Array.getElem?_append_right (by simp)]
    simp [hi]
  · simp only [upTo, Bool.and_eq_true, decide_eq_true_eq] at hp; omega

/-- what New leaves -/
def NewPost (w : World) (first last : Nat) (e : Ending) (w' : World) : Prop :=
  ∃ b, e = .returned (.tuple #[.pointer (some ⟨b, 0, none⟩), .int .i64 0]) ∧ w.heap.size ≤ b ∧ Touch No w w' ∧ MapAt w' b first last (upTo first last)

set_option maxRecDepth 100000 in
set_option maxHeartbeats 1000000 in
theorem new_ok (w : World) (first many : Nat) (h : first + many ≤ 4096) :
    Calls Tryz.prog 151 #[.int .i64 (first : Nat), .int .i64 (many : Nat)] w (NewPost w first (first + many)) := by
  have hz := zMap_zero
  have hz1 := zMap_size
  have hz2 := zMap_ne
  have h1 : (first : Int) ≤ 4096 := by omega
  have h2 : (many : Int) ≤ 4096 - (first : Int) := by omega
  have h0 : ¬ (many : Int) < 0 := by omega
  go_enter Tryz.func151, Tryz.ntmps151
  go_wp2
  clear hz hz1 hz2
  have M0 : Hid (MapAt (w.alloc (.cells (mapCells first ((first : Nat) + (many : Nat) : Int)) 189)) w.heap.size first (first + many) (upTo first first)) := by
    have := map_new w first (first + many) h
    rw [show ((first + many : Nat) : Int) = ((first : Nat) + (many : Nat) : Int) from by omega] at this
    exact this
  have T0 : Hid (Touch No w (w.alloc (.cells (mapCells first ((first : Nat) + (many : Nat) : Int)) 189))) := (Touch.refl _ _).alloc _
  go_loopg [7] many (fun g s7 wr => ∃ k, k + g = first + many ∧ first ≤ k ∧ s7 = .int .i64 ((k : Nat) : Int) ∧ Hid (MapAt wr w.heap.size first (first + many) (upTo first k)) ∧ Hid (Touch No w wr))
  case atStart => exact ⟨first, rfl, Nat.le_refl _, rfl, M0, T0⟩
  case round =>
    clear M0 T0
    obtain ⟨k, hkg, hfk, rfl, M, T⟩ := hrel
    have hlast := M.out.hi
    rw [show ((first + many : Nat) : Int) = ((first : Nat) + (many : Nat) : Int) from by omega] at hlast
    cases gk with
    | zero =>
      obtain rfl : k = first + many := by omega
      go_wp2
      go_ret2
      exact ⟨_, rfl, Nat.le_refl _, T.out, M.out⟩
    | succ g =>
      have hlt : (k : Int) < ((first : Nat) + (many : Nat) : Int) := by omega
      have Hr : Hid (first ≤ k ∧ k < first + many) := ⟨by omega, by omega⟩
      have hk4 : (k : Int) < 4096 := by omega
      go_wp2_with (go_at_call 139; refine (turn_at _ _ _ _ k _ _ M.out Hr.out rfl).mono ?_; rintro e w2 ⟨rfl, ht2, hm2⟩)
      go_roundg g
      case measure => omega
      case rel =>
        refine ⟨k + 1, by omega, by omega, by go_num, ?_, ?_⟩
        · rw [← upTo_next hfk]; exact hm2
        · exact T.out.then ht2 (fun i hi e => by simp only [One] at e; omega)
end Go.Proofs.YtnffigfafalocaaGreatDoor
namespace Go.Proofs.YtnffigfafalocaaGreatDoor
open Go.RowKit

/-- each of these is not free yet when it is given, one behind the other -/
def fresh (S : Nat → Bool) : List Nat → Bool
  | [] => true
  | x :: xs => !S x && fresh (Fr.flip S x) xs
theorem fresh_true : ∀ {xs : List Nat} {S : Nat → Bool}, fresh S xs = true ↔ xs.Nodup ∧ ∀ x ∈ xs, S x = false
  | [], S => by simp [fresh]
  | x :: xs, S => by
    simp only [fresh, Bool.and_eq_true, Bool.not_eq_true', List.nodup_cons, List.mem_cons, forall_eq_or_imp]
    rw [fresh_true]
    constructor
    · rintro ⟨h1, h2, h3⟩
      have hx : x ∉ xs := by
        intro h
        have := h3 x h
        simp [Fr.flip, h1] at this
      refine ⟨⟨hx, h2⟩, h1, fun y hy => ?_⟩
      have := h3 y hy
      have hne : y ≠ x := fun e => hx (e ▸ hy)
      simpa [Fr.flip, hne] using this
    · rintro ⟨⟨hx, h2⟩, h1, h3⟩
      refine ⟨h1, h2, fun y hy => ?_⟩
      have hne : y ≠ x := fun e => hx (e ▸ hy)
      simpa [Fr.flip, hne] using h3 y hy
theorem fresh_take {S : Nat → Bool} {xs : List Nat} {k : Nat} (hk : k < xs.length) (h : fresh S (xs.take k) = true) (hy : Fr.add S (xs.take k) (xs.getD k 0) = false) : fresh S (xs.take (k + 1)) = true := by
  have e : xs.take (k + 1) = xs.take k ++ [xs.getD k 0] := by
    rw [List.take_add_one, List.getElem?_eq_getElem hk, List.getD_eq_getElem?_getD, List.getElem?_eq_getElem hk]; rfl
  obtain ⟨h1, h2⟩ := fresh_true.1 h
  have h3 : S (xs.getD k 0) = false ∧ xs.getD k 0 ∉ xs.take k := by simpa [Fr.add] using hy
  rw [e]
  refine fresh_true.2 ⟨?_, fun x hx => ?_⟩
  · rw [List.nodup_append]
    refine ⟨h1, by simp, fun a ha b hb => ?_⟩
    have : b = xs.getD k 0 := by simpa using hb
    subst this
    exact fun e => h3.2 (e ▸ ha)
  · rcases List.mem_append.1 hx with hx | hx
    · exact h2 x hx
    · have : x = xs.getD k 0 := by simpa using hx
      subst this; exact h3.1
theorem fresh_not {S : Nat → Bool} {xs : List Nat} {k : Nat} (hk : k < xs.length) (hy : Fr.add S (xs.take k) (xs.getD k 0) = true) : fresh S xs = false := by
  cases hf : fresh S xs
  · rfl
  · obtain ⟨h1, h2⟩ := fresh_true.1 hf
    have hg : xs.getD k 0 = xs[k] := by rw [List.getD_eq_getElem?_getD, List.getElem?_eq_getElem hk]; rfl
    rw [hg] at hy
    have hm : xs[k] ∈ xs := List.getElem_mem hk
    have h3 : xs[k] ∈ xs.take k := by
      have := h2 _ hm
      simpa [Fr.add, this] using hy
    obtain ⟨j, hj, e⟩ := List.mem_iff_getElem.1 h3
    rw [List.length_take] at hj
    have hj' : j < k := by omega
    have e2 : (xs.take k)[j]'(by rw [List.length_take]; exact hj) = xs[j] := by simp
    rw [e2] at e
    exact absurd ((List.getElem_inj h1).1 e) (by omega)

/-- what Give says -/
def giveSays (first last : Nat) (S : Nat → Bool) (xs : List Nat) : Nat := if xs.all (inMap first last) then (if fresh S xs then 0 else 9) else 1
def giveSet (first last : Nat) (S : Nat → Bool) (xs : List Nat) : Nat → Bool := if giveSays first last S xs = 0 then Fr.add S xs else S
def GivePost (w : World) (b first last : Nat) (S : Nat → Bool) (xs : List Nat) (e : Ending) (w' : World) : Prop :=
  e = .returned (.int .i64 (giveSays first last S xs : Nat)) ∧ Touch (One b) w w' ∧ MapAt w' b first last (giveSet first last S xs)

theorem give_arg {w wr : World} {b first last k : Nat} {S : Nat → Bool} {xs : List Nat} (h : MapAt w b first last S) (ht : wr = w) (hk : k < xs.length) (hy : inMap first last (xs.getD k 0) = false) :
    GivePost w b first last S xs (.returned (.int .i64 1)) wr := by
  subst ht
  have hall : xs.all (inMap first last) = false := by
    rw [List.all_eq_false]
    refine ⟨xs[k], List.getElem_mem hk, ?_⟩
    rw [List.getD_eq_getElem?_getD, List.getElem?_eq_getElem hk] at hy
    simpa using hy
  have h1 : giveSays first last S xs = 1 := by simp [giveSays, hall]
  refine ⟨by rw [h1]; rfl, Touch.refl _ _, ?_⟩
  rw [giveSet, h1]; exact h
theorem give_state {w wr : World} {b first last k : Nat} {S : Nat → Bool} {xs : List Nat} (hall : xs.all (inMap first last) = true) (h : MapAt wr b first last S) (ht : Touch (One b) w wr) (hk : k < xs.length)
    (hy : Fr.add S (xs.take k) (xs.getD k 0) = true) : GivePost w b first last S xs (.returned (.int .i64 9)) wr := by
  have h1 : giveSays first last S xs = 9 := by simp [giveSays, hall, fresh_not hk hy]
  refine ⟨by rw [h1]; rfl, ht, ?_⟩
  rw [giveSet, h1]; exact h
theorem give_ok {w wr : World} {b first last : Nat} {S : Nat → Bool} {xs : List Nat} (hall : xs.all (inMap first last) = true) (h : MapAt wr b first last (Fr.add S xs)) (ht : Touch (One b) w wr) (hf : fresh S xs = true) :
    GivePost w b first last S xs (.returned (.int .i64 0)) wr := by
  have h1 : giveSays first last S xs = 0 := by simp [giveSays, hall, hf]
  refine ⟨by rw [h1]; rfl, ht, ?_⟩
  rw [giveSet, h1]; exact h

theorem nums_lt {xs : List Nat} {k : Nat} (h : ∀ x ∈ xs, x < 4294967296) : xs.getD k 0 < 4294967296 := by
  rw [List.getD_eq_getElem?_getD]
  cases hx : xs[k]? with
  | none => simp
  | some x => exact h x (List.mem_of_getElem? hx)
theorem take_getD {xs : List Nat} {k : Nat} (hk : k < xs.length) : xs.take (k + 1) = xs.take k ++ [xs.getD k 0] := by
  rw [List.take_add_one, List.getElem?_eq_getElem hk, List.getD_eq_getElem?_getD, List.getElem?_eq_getElem hk]; rfl
theorem all_getD {f : Nat → Bool} {xs : List Nat} {k : Nat} (hk : k < xs.length) (h : xs.all f = true) : f (xs.getD k 0) = true := by
  rw [List.getD_eq_getElem?_getD, List.getElem?_eq_getElem hk]
  exact List.all_eq_true.1 h _ (List.getElem_mem hk)

/-- given, and turned back from the first on -/
theorem add_back {S : Nat → Bool} {xs : List Nat} {k j : Nat} (hk : k ≤ xs.length) (hj : j < k) (h : fresh S (xs.take k) = true) :
    Fr.flip (Fr.add S ((xs.take k).drop j)) (xs.getD j 0) = Fr.add S ((xs.take k).drop (j + 1)) ∧ True := by
  obtain ⟨h1, h2⟩ := fresh_true.1 h
  have hlen : j < (xs.take k).length := by rw [List.length_take]; omega
  have hg : (xs.take k)[j] = xs.getD j 0 := by
    rw [List.getElem_take, List.getD_eq_getElem?_getD, List.getElem?_eq_getElem (by omega)]; rfl
  have hd : (xs.take k).drop j = xs.getD j 0 :: (xs.take k).drop (j + 1) := by
    rw [List.drop_eq_getElem_cons hlen, hg]
  have hn : xs.getD j 0 ∉ (xs.take k).drop (j + 1) := by
    have : ((xs.take k).drop j).Nodup := h1.sublist (List.drop_sublist _ _)
    rw [hd] at this
    exact (List.nodup_cons.1 this).1
  have hS : S (xs.getD j 0) = false := h2 _ (hg ▸ List.getElem_mem hlen)
  refine ⟨?_, trivial⟩
  rw [hd]
  generalize xs.getD j 0 = y at *
  generalize (xs.take k).drop (j + 1) = l at *
  funext q
  simp only [Fr.flip, Fr.add, List.contains_eq_mem, List.mem_cons]
  by_cases e : q = y
  · subst e; simp [hn, hS]
  · simp [e]

set_option maxRecDepth 100000 in
set_option maxHeartbeats 2000000 in
theorem give_any (w : World) (b first last : Nat) (S : Nat → Bool) (a : Option Addr) (n cap : Nat) (xs : List Nat) (h : MapAt w b first last S) (hn : xs.length = n) (hcap : n ≤ cap) (hmax : (cap : Int) ≤ 9223372036854775807)
    (hr : Rd w a (nums .u32 xs)) (hoff : ∀ c o, a = some ⟨c, o, none⟩ → 0 < n → c ≠ b) (hx32 : ∀ x ∈ xs, x < 4294967296) :
    Calls Tryz.prog 54 #[.pointer (some ⟨b, 0, none⟩), .slice a n cap] w (GivePost w b first last S xs) := by
  have H := Lib.hid h; clear h
  have HN := Lib.hid hn; clear hn
  have HR := Lib.hid hr; clear hr
  have HO := Lib.hid hoff; clear hoff
  have HX := Lib.hid hx32; clear hx32
  go_enter Tryz.func54, Tryz.ntmps54
  go_wp2_with (go_at_call 137; refine (there_map _ _ _ _ _ H.out).mono ?_; rintro e w' ⟨rfl, rfl⟩)
  go_loopg [16] n (fun g s16 wr => ∃ k, k + g = n ∧ s16 = .int .i64 ((k : Nat) : Int) ∧ Hid (wr = w) ∧ Hid ((xs.take k).all (inMap first last) = true))
  case atStart => exact ⟨0, by omega, rfl, rfl, rfl⟩
  case round =>
    obtain ⟨k, hkg, rfl, hwr, hall⟩ := hrel
    have hww : w = wr := hwr.out.symm
    clear hwr
    subst hww
    cases gk with
    | succ g =>
      have hlt : (k : Int) < n := by omega
      have hkl : k < xs.length := by have := HN.out; omega
      obtain ⟨c, o, rfl, hc⟩ := HR.out.num hkl
      have hy32 := nums_lt (k := k) HX.out
      have Hall : Hid (inMap first last (xs.getD k 0) = true → (xs.take (k + 1)).all (inMap first last) = true) := fun hy => by
        have := hall.out
        rw [take_getD hkl, List.all_append, this]; simp only [List.all_cons, hy]; rfl
      have HArg : Hid (inMap first last (xs.getD k 0) = false → GivePost w b first last S xs (.returned (.int .i64 1)) w) := fun hy => give_arg H.out rfl hkl hy
      generalize xs.getD k 0 = y at *
      cases hin : inMap first last y
      · go_wp2_with (go_at_call 149; refine (pageOf_any _ _ _ _ _ _ H.out hy32).mono ?_; rintro e w' ⟨rfl, rfl⟩)
        go_ret
        exact HArg.out hin
      · go_wp2_with (go_at_call 149; refine (pageOf_any _ _ _ _ _ _ H.out hy32).mono ?_; rintro e w' ⟨rfl, rfl⟩)
        go_roundg g
        case measure => omega
        case rel => exact ⟨k + 1, by omega, by go_num, rfl, Hall.out hin⟩
    | zero =>
      obtain rfl : k = n := by omega
      have Hall : Hid (xs.all (inMap first last) = true) := by
        have := hall.out
        rwa [List.take_of_length_le (by have := HN.out; omega)] at this
      clear hall
      go_wp2
      go_loopg [27] k (fun g s27 wr => ∃ j, j + g = k ∧ s27 = .int .i64 ((j : Nat) : Int) ∧ Hid (Touch (One b) w wr) ∧ Hid (MapAt wr b first last (Fr.add S (xs.take j))) ∧ Hid (fresh S (xs.take j) = true))
      case atStart => exact ⟨0, by omega, rfl, Touch.refl _ _, by rw [List.take_zero, Fr.add_nil]; exact H.out, rfl⟩
      case round =>
        obtain ⟨j, hjg, rfl, T, M, Fh⟩ := hrel
        cases gk with
        | zero =>
          obtain rfl : j = k := by omega
          have Fin : Hid (GivePost w b first last S xs (.returned (.int .i64 0)) wr) := by
            have e : xs.take j = xs := List.take_of_length_le (by have := HN.out; omega)
            have h1 := M.out
            have h2 := Fh.out
            rw [e] at h1 h2
            exact give_ok Hall.out h1 T.out h2
          go_wp2
          go_ret
          exact Fin.out
        | succ g =>
          have hlt : (j : Int) < k := by omega
          have hkl : j < xs.length := by have := HN.out; omega
          obtain ⟨c, o, rfl, hc0⟩ := HR.out.num hkl
          have hc := T.out.cell (HO.out c o rfl (by omega)) hc0
          clear hc0
          have hy32 := nums_lt (k := j) HX.out
          have Hin := Lib.hid (inMap_true.1 (all_getD hkl Hall.out))
          have HState : Hid (∀ wx, Fr.add S (xs.take j) (xs.getD j 0) = true → MapAt wx b first last S → Touch (One b) w wx → GivePost w b first last S xs (.returned (.int .i64 9)) wx) := fun wx hy hm ht => give_state Hall.out hm ht hkl hy
          have HNext : Hid (Fr.add S (xs.take j) (xs.getD j 0) = false → fresh S (xs.take (j + 1)) = true ∧ Fr.flip (Fr.add S (xs.take j)) (xs.getD j 0) = Fr.add S (xs.take (j + 1))) := fun hy =>
            ⟨fresh_take hkl Fh.out hy, by rw [Fr.flip_add hy, ← take_getD hkl]⟩
          generalize xs.getD j 0 = y at *
          cases hS : Fr.add S (xs.take j) y
          · have HS := Lib.hid hS
            go_wp2_with (first
              | (go_at_call 150; refine (is_any _ _ _ _ _ _ M.out hy32).mono ?_; rintro e w' ⟨rfl, rfl⟩)
              | (go_at_call 139; refine (turn_at _ _ _ _ _ _ _ M.out Hin.out rfl).mono ?_; rintro e w2 ⟨rfl, ht2, hm2⟩))
            go_roundg g
            case measure => omega
            case rel =>
              obtain ⟨n1, n2⟩ := HNext.out HS.out
              exact ⟨j + 1, by omega, by go_num, T.out.trans ht2, by rw [← n2]; exact hm2, n1⟩
          · have HS := Lib.hid hS
            have hjc : (j : Int) ≤ cap := by omega
            go_wp2_with (go_at_call 150; refine (is_any _ _ _ _ _ _ M.out hy32).mono ?_; rintro e w' ⟨rfl, rfl⟩)
            obtain ⟨w1, rfl⟩ : ∃ w1 : World, w1 = wr := ⟨_, rfl⟩
            go_loopg [39] j (fun g s39 wx => ∃ i, i + g = j ∧ s39 = .int .i64 ((i : Nat) : Int) ∧ Hid (Touch (One b) w wx) ∧ Hid (MapAt wx b first last (Fr.add S ((xs.take j).drop i))))
            case atStart => exact ⟨0, by omega, rfl, T, by rw [List.drop_zero]; exact M⟩
            case round =>
              clear T M hc
              obtain ⟨i, hig, rfl, T, M⟩ := hrel
              cases gk with
              | zero =>
                obtain rfl : i = j := by omega
                have Fin : Hid (GivePost w b first last S xs (.returned (.int .i64 9)) wr) := by
                  have h1 := M.out
                  rw [List.drop_of_length_le (by rw [List.length_take]; omega), Fr.add_nil] at h1
                  exact HState.out _ HS.out h1 T.out
                go_wp2
                go_ret
                exact Fin.out
              | succ g' =>
                have hlt2 : (i : Int) < j := by omega
                have hil : i < xs.length := by omega
                obtain ⟨c1, o1, e1, hc0⟩ := HR.out.num hil
                simp only [Option.some.injEq, Addr.mk.injEq, and_true] at e1
                obtain ⟨rfl, rfl⟩ := e1
                have hc := T.out.cell (HO.out _ _ rfl (by omega)) hc0
                clear hc0
                have Hin2 := Lib.hid (inMap_true.1 (all_getD hil Hall.out))
                have Hb := Lib.hid (add_back (S := S) (xs := xs) (k := j) (j := i) (by omega) (by omega) Fh.out).1
                generalize xs.getD i 0 = z at *
                go_wp2_with (go_at_call 139; refine (turn_at _ _ _ _ _ _ _ M.out Hin2.out rfl).mono ?_; rintro e w2 ⟨rfl, ht2, hm2⟩)
                go_roundg g'
                case measure => omega
                case rel => exact ⟨i + 1, by omega, by go_num, T.out.trans ht2, by rw [← Hb.out]; exact hm2⟩
end Go.Proofs.YtnffigfafalocaaGreatDoor
namespace Go.Proofs.YtnffigfafalocaaGreatDoor
open Go Go.RowKit
theorem own_sl {w' : World} {base n c : Nat} {T : TypeId} {a : Option Addr} {vs : List Value} (h : Own w' base T (.slice a n c) vs) : ∃ O, (Part.sl T a n c vs).P w' O ∧ ∀ k, O k → base ≤ k := by
  obtain ⟨_, _, e1, hcc, _⟩ := h.form
  injection e1 with _ e2 e3
  subst e3
  obtain ⟨hl, h⟩ := h
  rcases h with ⟨hv, h0⟩ | ⟨g, cp, cur, hv, hg, hh, hn, hm, hs, ht⟩
  · cases hv
    exact ⟨fun _ => False, ⟨h0, by omega, Nat.zero_le _, fun _ f => f.elim, Or.inl rfl⟩, fun _ f => f.elim⟩
  · cases hv
    have hgs : g < w'.heap.size := (Array.getElem?_eq_some_iff.1 hh).1
    refine ⟨fun k => k = g, ⟨by omega, by omega, by omega, fun k hk => by rw [hk]; exact hgs, Or.inr ⟨g, 0, cur, rfl, hh, by omega, rfl, fun i v hi => ?_⟩⟩, fun k hk => by rw [hk]; omega⟩
    rw [← ht, List.getElem?_take] at hi
    split at hi
    · rw [Nat.zero_add]; simpa using hi
    · cases hi
end Go.Proofs.YtnffigfafalocaaGreatDoor
namespace Go.Proofs.YtnffigfafalocaaGreatDoor
open Go Go.RowKit
set_option linter.unusedSimpArgs false
set_option linter.unusedVariables false

namespace Fr
end Fr
/-- the program's map, as a part -/
def Part.map (b first last : Nat) (S : Nat → Bool) : Part where
  P w O := MapAt w b first last S ∧ O b ∧ ∀ k, O k → k < w.heap.size
  stable := fun {F w w' O} ⟨h1, h2, h3⟩ t hF => ⟨h1.touch t (hF b h2), h2, fun k hk => Nat.lt_of_lt_of_le (h3 k hk) t.size⟩
  lt := fun {w O} h => h.2.2
theorem born_map {w w' : World} {b first last : Nat} {S : Nat → Bool} (hb : w.heap.size ≤ b) (t : Touch No w w') (h : MapAt w' b first last S) : Born w (Part.map b first last S) w' :=
  ⟨t, fun k => k = b, ⟨h, rfl, fun k hk => by rw [hk]; exact h.lt⟩, fun k hk => by rw [hk]; exact hb⟩
theorem al_map {w : World} {b first last : Nat} {S : Nat → Bool} {A : Nat → Prop} (h : Al w [Part.map b first last S] A) : MapAt w b first last S := by
  obtain ⟨A1, _, ⟨h, _⟩, _⟩ := h
  exact h
theorem map_take {w w' : World} {b first last n : Nat} {S S' : Nat → Bool} {A : Nat → Prop} {v : Value} {vs : List Value} (h : Al w [Part.map b first last S] A) (hv : vs.length = n) (ho : Own w' w.heap.size 38 v vs) (t : Touch (One b) w w') (h' : MapAt w' b first last S') :
    ∃ a c, v = .slice a n c ∧ TurnsL w A [Part.map b first last S', Part.sl 38 a n c vs] w' := by
  obtain ⟨a, c, rfl, _⟩ := ho.form' hv
  refine ⟨a, c, rfl, ?_⟩
  have hm := al_map h
  obtain ⟨A1, _, ⟨_, hb, _⟩, _, _, h1, _⟩ := h
  obtain ⟨O2, hs, hge⟩ := own_sl ho
  refine ⟨t.mono (fun k _ e => by rw [show k = b from e]; exact h1 b hb), fun k => k = b ∨ O2 k, ⟨fun k => k = b, O2, ⟨h', rfl, fun k hk => by rw [hk]; exact h'.lt⟩, ⟨O2, fun _ => False, hs, trivial, fun _ _ f => f, fun _ h => h, fun _ f => f.elim⟩, fun k hk h2 => ?_, fun k hk => Or.inl hk, fun k hk => Or.inr hk⟩, fun k hk => ?_⟩
  · have := hge k h2
    have := hm.lt
    omega
  · rcases hk with rfl | hk
    · exact Or.inl (h1 _ hb)
    · exact Or.inr (hge k hk)

end Go.Proofs.YtnffigfafalocaaGreatDoor
