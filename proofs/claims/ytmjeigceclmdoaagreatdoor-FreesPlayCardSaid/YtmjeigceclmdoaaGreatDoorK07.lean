/-
  Package frees by its own text, fourth part: New, Take.
-/
import Derived.Test.YtmjeigceclmdoaaGreatDoorK06
import Derived.Deep.LoopGhost
namespace Go.Proofs.YtmjeigceclmdoaaGreatDoor
open Go.RowKit

theorem info_u32 : (Tryz.prog.info? 23).map (fun i => (i.zero, i.size, i.bytes)) = some (some (.int .u32 0), 1, 4) := by kernel_rfl

theorem tab_ne {w : World} {b first last : Nat} {S : Nat → Bool} (h : MapAt w b first last S) (hT : TabAt w) : 0 ≠ b := by
  rintro rfl
  have := hT 0 (by decide)
  rw [h.made] at this
  simp at this
theorem TabAt.touch {F : Nat → Prop} {w w' : World} (h : TabAt w) (t : Touch F w w') (hF : ¬ F 0) : TabAt w' := fun j hj => t.cell hF (h j hj)

/-- what Take says -/
def takeSays (S : Nat → Bool) (n : Int) : Nat := if n < 0 then 1 else if (Fr.lst S).length < n then 6 else 0

set_option maxHeartbeats 400000 in
theorem take_bad (w : World) (b first last : Nat) (S : Nat → Bool) (n : Int) (h : MapAt w b first last S) (hn : n < 0) :
    Calls Tryz.prog 33 #[.pointer (some ⟨b, 0, none⟩), .int .i64 n] w fun e w' => e = .returned (.tuple #[.slice none 0 0, .int .i64 1]) ∧ w = w' := by
  have H := Lib.hid h; clear h
  go_enter Tryz.func33, Tryz.ntmps33
  go_wp2_with fail
  go_step3
  go_wp2_with (go_at_call 143; refine (there_map _ _ _ _ _ H.out).mono ?_; rintro e w' ⟨rfl, rfl⟩)
  rw [Exit.noGoto_ret]
  go_ret2
  exact ⟨rfl, rfl⟩

set_option maxHeartbeats 400000 in
theorem take_full (w : World) (b first last : Nat) (S : Nat → Bool) (n : Int) (h : MapAt w b first last S) (hn : (Fr.lst S).length < n) :
    Calls Tryz.prog 33 #[.pointer (some ⟨b, 0, none⟩), .int .i64 n] w fun e w' => e = .returned (.tuple #[.slice none 0 0, .int .i64 6]) ∧ w = w' := by
  have H := Lib.hid h
  have hm := h.many; clear h
  generalize (Fr.lst S).length = k at *
  have h0 : 0 ≤ n := by omega
  go_enter Tryz.func33, Tryz.ntmps33
  go_wp2_with fail
  go_step3
  go_wp2_with (go_at_call 143; refine (there_map _ _ _ _ _ H.out).mono ?_; rintro e w' ⟨rfl, rfl⟩)
  rw [Exit.noGoto_ret]
  go_ret2
  exact ⟨rfl, rfl⟩

theorem turn_at (w : World) (b first last p : Nat) (S : Nat → Bool) (q : Int) (h : MapAt w b first last S) (hr : first ≤ p ∧ p < last) (hq : q = (p : Nat)) :
    Calls Tryz.prog 142 #[.pointer (some ⟨b, 0, none⟩), .int .u32 q] w fun e w' => e = .returned (.tuple #[]) ∧ Touch (One b) w w' ∧ MapAt w' b first last (Fr.flip S p) := by
  subst hq; exact turn_any w b first last p S h hr
theorem tz_at (x : Nat) (q : Int) (hx : x < 18446744073709551616) (hx0 : x ≠ 0) (w : World) (hT : TabAt w) (hq : q = (x : Nat)) :
    Calls Tryz.prog 144 #[.int .u64 q] w fun e w' => (∃ t m : Nat, t < 64 ∧ x = 2 ^ t * (2 * m + 1) ∧ e = .returned (.int .i64 t)) ∧ w = w' := by
  subst hq
  obtain ⟨t, m, ht, hm, hc⟩ := tz_any x hx hx0 w hT
  exact hc.mono fun e w' ⟨he, hw⟩ => ⟨⟨t, m, ht, hm, he⟩, hw⟩

/-- what Take leaves -/
def TakePost (w : World) (b first last : Nat) (S : Nat → Bool) (n : Nat) (e : Ending) (w' : World) : Prop :=
  ∃ v, e = .returned (.tuple #[v, .int .i64 0]) ∧ Own w' w.heap.size 23 v (nums .u32 ((Fr.lst S).take n)) ∧ Touch (One b) w w' ∧ MapAt w' b first last (Fr.sub S ((Fr.lst S).take n))

/-- k are taken, none is left below word i -/
structure TakeInv (w : World) (b first last : Nat) (S : Nat → Bool) (n k i : Nat) (v : Value) (wr : World) : Prop where
  le : k ≤ n
  map : MapAt wr b first last (Fr.sub S ((Fr.lst S).take k))
  own : Own wr w.heap.size 23 v (nums .u32 ((Fr.lst S).take k))
  touch : Touch (One b) w wr
  gone : ∀ p, p < 64 * i → Fr.sub S ((Fr.lst S).take k) p = false

theorem TakeInv.done {w : World} {b first last : Nat} {S : Nat → Bool} {n k i : Nat} {v : Value} {wr : World} (h : TakeInv w b first last S n k i v wr) (hk : k = n) :
    TakePost w b first last S n (.returned (.tuple #[v, .int .i64 0])) wr := by subst hk; exact ⟨v, rfl, h.own, h.touch, h.map⟩
theorem TakeInv.all {w : World} {b first last : Nat} {S : Nat → Bool} {n k : Nat} {v : Value} {wr : World} (h : TakeInv w b first last S n k 64 v wr) (hn : n ≤ (Fr.lst S).length) :
    TakePost w b first last S n (.returned (.tuple #[v, .int .i64 0])) wr := by
  refine h.done ?_
  have h0 : (Fr.lst S).drop k = [] := by
    rw [← Fr.lst_sub_take]
    refine List.eq_nil_iff_forall_not_mem.2 (fun p hp => ?_)
    obtain ⟨h1, h2⟩ := Fr.mem_lst.1 hp
    rw [h.gone p (by omega)] at h2
    cases h2
  have := List.drop_eq_nil_iff.1 h0
  have := h.le
  omega
theorem TakeInv.skip {w : World} {b first last : Nat} {S : Nat → Bool} {n k i : Nat} {v : Value} {wr : World} (h : TakeInv w b first last S n k i v wr) (hz : Fr.Word 0 (Fr.sub S ((Fr.lst S).take k)) i) :
    TakeInv w b first last S n k (i + 1) v wr :=
  ⟨h.le, h.map, h.own, h.touch, fun p hp => by
    by_cases h1 : p < 64 * i
    · exact h.gone p h1
    · have := hz.zero.1 rfl (p - 64 * i) (by omega)
      rwa [show 64 * i + (p - 64 * i) = p from by omega] at this⟩
/-- the next one -/
theorem TakeInv.next {w : World} {b first last : Nat} {S : Nat → Bool} {n k i x t m : Nat} {v : Value} {wr : World} (h : TakeInv w b first last S n k i v wr) (hi : i < 64) (hw : Fr.Word x (Fr.sub S ((Fr.lst S).take k)) i) (ht : t < 64)
    (hx : x = 2 ^ t * (2 * m + 1)) :
    first ≤ i * 64 + t ∧ i * 64 + t < last ∧ i * 64 + t < 4096 ∧ (Fr.lst S).take (k + 1) = (Fr.lst S).take k ++ [i * 64 + t] ∧ Fr.flip (Fr.sub S ((Fr.lst S).take k)) (i * 64 + t) = Fr.sub S ((Fr.lst S).take (k + 1)) ∧
    (∀ p, p < 64 * i → Fr.sub S ((Fr.lst S).take (k + 1)) p = false) := by
  obtain ⟨hb, hl⟩ := Fr.least_bit hx
  have hS : Fr.sub S ((Fr.lst S).take k) (i * 64 + t) = true := by rw [Nat.mul_comm, ← hw.2 t ht]; exact hb
  have hr := h.map.rng _ hS
  have hleast : ∀ q, q < i * 64 + t → Fr.sub S ((Fr.lst S).take k) q = false := by
    intro q hq
    by_cases h1 : q < 64 * i
    · exact h.gone q h1
    · have := hl (q - 64 * i) (by omega)
      rw [hw.2 _ (by omega)] at this
      rwa [show 64 * i + (q - 64 * i) = q from by omega] at this
  have hc := Fr.lst_cons (by omega) hS hleast
  rw [Fr.lst_sub_take] at hc
  have htake : (Fr.lst S).take (k + 1) = (Fr.lst S).take k ++ [i * 64 + t] := by
    have h0 : (Fr.lst S)[k]? = some (i * 64 + t) := by
      have := congrArg (fun l => l[0]?) hc
      simpa [List.getElem?_drop] using this
    rw [List.take_add_one, h0]; rfl
  refine ⟨hr.1, hr.2, by omega, htake, ?_, fun p hp => ?_⟩
  · rw [Fr.flip_sub hS, htake]
  · rw [htake, ← Fr.flip_sub hS]
    have := h.gone p hp
    simp only [Fr.flip]
    rw [if_neg (by omega)]; exact this

set_option maxRecDepth 100000 in
set_option maxHeartbeats 1000000 in
theorem take_ok (w : World) (b first last : Nat) (S : Nat → Bool) (n : Nat) (h : MapAt w b first last S) (hT : TabAt w) (hn : n ≤ (Fr.lst S).length) :
    Calls Tryz.prog 33 #[.pointer (some ⟨b, 0, none⟩), .int .i64 (n : Nat)] w (TakePost w b first last S n) := by
  have H := Lib.hid h
  have hm := h.many
  have hlen := Fr.lst_length_le S
  have hn4 : n ≤ 4096 := by omega
  have Hbne := Lib.hid (tab_ne h hT)
  have Hlt := Lib.hid h.lt
  clear h
  obtain ⟨i0, hi, hz0, hz1, hz2⟩ := info_parts info_u32
  have HT := Lib.hid hT; clear hT
  have HN := Lib.hid hn; clear hn
  have hle : ¬ ((Fr.lst S).length : Int) < (n : Int) := by have := HN.out; omega
  obtain ⟨L, hL⟩ : ∃ L, (Fr.lst S).length = L := ⟨_, rfl⟩
  rw [hL] at hm hlen hle
  have HL := Lib.hid hL; clear hL
  go_enter Tryz.func33, Tryz.ntmps33
  go_wp2_with fail
  go_step3
  go_wp2_with (first
    | (go_at_call 143; refine (there_map _ _ _ _ _ H.out).mono ?_; rintro e w' ⟨rfl, rfl⟩)
    | (at_make; refine wpList_make_own _ rfl _ _ _ rfl w.heap.size _ i0 _ 1 Tryz.underlying67 hi hz0 hz1 .i64 .i64 _ n rfl rfl rfl (by rw [hz2]; omega) (by unfold maxLen; omega) (Nat.le_refl _) ?_; intro w1 hown hgrow))
  have ht1 : Touch (One b) w w1 := (Touch.refl _ _).grown hgrow (by intro k hk; cases hk)
  have I0 : Hid (TakeInv w b first last S n 0 0 (.slice (some ⟨w.heap.size, 0, none⟩) 0 n) w1) :=
    ⟨Nat.zero_le _, by rw [List.take_zero, Fr.sub_nil]; exact H.out.touch ((Touch.refl No w).grown hgrow (by intro k hk; cases hk)) (fun f => f), hown, ht1, fun p hp => by omega⟩
  clear hown hgrow ht1
  go_step3
  go_wp2
  go_loopg [6, 25] 64 (fun g s6 s25 wr => ∃ i k, i + g = 64 ∧ s25 = .int .i64 ((i : Nat) : Int) ∧ Hid (TakeInv w b first last S n k i s6 wr))
  case atStart => exact ⟨0, 0, rfl, rfl, I0⟩
  case round =>
    obtain ⟨i, k, hig, rfl, I⟩ := hrel
    clear I0 hle hm
    cases gk with
    | zero =>
      obtain rfl : i = 64 := by omega
      go_wp2
      go_ret2
      exact I.out.all HN.out
    | succ g =>
      have hi64 : (i : Int) < 64 := by omega
      go_wp2
      obtain ⟨wo, hwo⟩ : ∃ wo : World, wo = wr := ⟨_, rfl⟩
      have hkn := I.out.le
      go_loopg [6] (n - k) (fun g' s6 wr => ∃ k, k + g' = n ∧ Hid (TakeInv w b first last S n k i s6 wr))
      case atStart => exact ⟨k, by omega, I⟩
      case round =>
        clear I hwo hkn
        obtain ⟨k, hkg, I⟩ := hrel
        obtain ⟨x, hx, hw⟩ := I.out.map.word i (by omega)
        have Hw := Lib.hid hw; clear hw
        by_cases hx0 : x = 0
        · subst hx0
          go_wp2
          go_roundg g
          case measure => omega
          case rel => exact ⟨i + 1, k, by omega, by go_num, I.out.skip Hw.out⟩
        · have htest : ((x : Int) != 0) = true := by simp; omega
          have Hx0 := Lib.hid hx0; clear hx0
          have hlenk : (nums .u32 ((Fr.lst S).take k)).length = k := by rw [nums_length, List.length_take]; have := HN.out; omega
          obtain ⟨a, cap, rfl, hcap, hrd, hbase, hmax⟩ := I.out.own.form' hlenk
          cases gk with
          | zero =>
            obtain rfl : k = n := by omega
            clear hrd hbase
            have Hlk := Lib.hid hlenk; clear hlenk
            go_wp2
            go_ret2
            exact I.out.done rfl
          | succ g' =>
            have hkn : (k : Int) < n := by omega
            have htest2 : ((k : Int) == (n : Int)) = false := by rw [beq_eq_false_iff_ne]; omega
            have htab : TabAt wr := HT.out.touch I.out.touch (fun e => Hbne.out e)
            have Htab := Lib.hid htab; clear htab
            have Hlk := Lib.hid hlenk; clear hlenk
            clear hrd hbase
            go_wp2_with fail
            refine (tz_at x _ Hw.out.1 Hx0.out _ Htab.out rfl).mono ?_
            rintro e w' ⟨⟨t, m, ht, hxm, rfl⟩, rfl⟩
            have Hxm := Lib.hid hxm; clear hxm
            have hN := I.out.next (by omega) Hw.out ht Hxm.out
            have Hr := Lib.hid (And.intro hN.1 hN.2.1)
            have hp4 := hN.2.2.1
            have HN' := Lib.hid hN; clear hN
            have Hm := Lib.hid I.out.map
            go_wp2_with fail
            refine (turn_at _ _ _ _ (i * 64 + t) _ _ Hm.out Hr.out (by omega)).mono ?_
            rintro e w2 ⟨rfl, ht2, hm2⟩
            have Ht2 := Lib.hid ht2; clear ht2
            have Hm2 := Lib.hid hm2; clear hm2
            have Hown2 := Lib.hid (I.out.own.touch Ht2.out (fun q hq _ e => by have := Hlt.out; simp only [One] at e; omega))
            have Hs2 : Hid (w.heap.size ≤ w2.heap.size) := Nat.le_trans I.out.touch.size Ht2.out.size
            go_wp2_with (at_builtin; refine wpList_append1 rfl _ _ _ rfl w.heap.size _ i0 _ 4 Tryz.underlying67 hi hz0 hz1 hz2 rfl _ _ _ Hown2.out rfl rfl rfl (by rw [Hlk.out]; unfold maxLen; omega) (by rw [Hlk.out]; omega) Hs2.out ?_; intro v' w3 hown3 ht3)
            go_roundg g'
            case measure => omega
            case rel =>
              refine ⟨k + 1, by omega, ?_⟩
              obtain ⟨_, _, _, htk, hfl, hgone⟩ := HN'.out
              refine ⟨by omega, ?_, ?_, ?_, hgone⟩
              · rw [← hfl]; exact Hm2.out.touch ht3 (fun e => by have := (Hown2.out.block e).1; have := Hlt.out; omega)
              · have e : nums .u32 ((Fr.lst S).take (k + 1)) = nums .u32 ((Fr.lst S).take k) ++ [Value.int .u32 (((i : Nat) : Int) * 64 + ((t : Nat) : Int))] := by rw [htk, nums_append]; simp [nums]
                rw [e]; exact hown3
              · exact (I.out.touch.trans Ht2.out).then ht3 (fun q hq e => absurd ((Hown2.out.block e).1) (by omega))
end Go.Proofs.YtmjeigceclmdoaaGreatDoor
