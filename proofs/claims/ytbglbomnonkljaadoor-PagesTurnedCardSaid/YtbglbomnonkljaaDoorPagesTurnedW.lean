/-
  Package drydocklaw14 by its own text: the walk of PagesTurned.
-/
import Derived.Test.YtbglbomnonkljaaDoorPgTop
import Derived.Test.YtbglbomnonkljaaDoorIn
import Derived.StillTailTactics
import Derived.Deep.DeepCutAuto
import Derived.IntWalk
namespace Go.Proofs.YtbglbomnonkljaaDoor
open Go Go.RowKit
set_option linter.unusedSimpArgs false

namespace Pg
/-- the first of four bytes, turned -/
def tset (b : List Nat) (K z : Nat) : Nat → List Nat
  | 0 => b
  | i + 1 => (tset b K z i).set (K + i) ((tset b K z i).getD (K + i) 0 ^^^ (z >>> (8 * i)) % 256)
theorem tset_length (b : List Nat) (K z : Nat) : ∀ i, (tset b K z i).length = b.length
  | 0 => rfl
  | i + 1 => by rw [tset, List.length_set, tset_length b K z i]
theorem tset_get (b : List Nat) (K z : Nat) : ∀ i, K + i ≤ b.length → ∀ n, (tset b K z i)[n]? = if K ≤ n ∧ n < K + i then some (b.getD n 0 ^^^ (z >>> (8 * (n - K))) % 256) else b[n]?
  | 0, _, n => by rw [if_neg (by omega)]; rfl
  | i + 1, h, n => by
    have ih := tset_get b K z i (by omega)
    rw [tset, List.getElem?_set, tset_length]
    by_cases e : K + i = n
    · subst e
      rw [if_pos rfl, if_pos (by omega), if_pos (by omega), List.getD_eq_getElem?_getD, ih, if_neg (by omega), Nat.add_sub_cancel_left, List.getD_eq_getElem?_getD]
    · rw [if_neg e, ih]
      by_cases h2 : K ≤ n ∧ n < K + i
      · rw [if_pos h2, if_pos (by omega)]
      · rw [if_neg h2, if_neg (by omega)]
theorem tset_turn {b : List Nat} (hb : b.length = 256) {K : Nat} (hK : K ≤ 252) (z : Nat) : tset b K z 4 = turn b K z := by
  refine List.ext_getElem? (fun n => ?_)
  rw [tset_get b K z 4 (by omega), turn, List.append_assoc]
  have hl : (b.take K).length = K := by rw [List.length_take]; omega
  by_cases h1 : n < K
  · rw [if_neg (by omega), List.getElem?_append_left (by omega), List.getElem?_take_of_lt h1]
  · rw [List.getElem?_append_right (by omega), hl]
    by_cases h2 : n < K + 4
    · rw [if_pos (by omega), List.getElem?_append_left (by rw [xor4_length]; omega), xor4, List.getElem?_map, List.getElem?_range (by omega)]
      simp only [Option.map_some, List.getD_eq_getElem?_getD]
      rw [List.getElem?_take_of_lt (by omega), List.getElem?_drop, show K + (n - K) = n by omega]
    · rw [if_neg (by omega), List.getElem?_append_right (by rw [xor4_length]; omega), xor4_length, List.getElem?_drop]
      congr 1; omega
theorem tset_lt {b : List Nat} (h : ∀ x ∈ b, x < 256) (K z : Nat) : ∀ i, ∀ x ∈ tset b K z i, x < 256
  | 0, x, hx => h x hx
  | i + 1, x, hx => by
    have ih := tset_lt h K z i
    rcases List.mem_or_eq_of_mem_set hx with h' | h'
    · exact ih x h'
    · rw [h']
      refine Nat.xor_lt_two_pow (n := 8) ?_ (Nat.mod_lt _ (by decide))
      rw [List.getD_eq_getElem?_getD]
      cases hq : (tset b K z i)[K + i]? with
      | none => simp
      | some y => exact ih y (List.mem_of_getElem? hq)
theorem turn_zero (b : List Nat) (K : Nat) (h : K + 4 ≤ b.length) : turn b K 0 = b := by
  have e : xor4 ((b.drop K).take 4) 0 = (b.drop K).take 4 := by
    obtain ⟨x0, x1, x2, x3, hx⟩ := Rt.list4 (l := (b.drop K).take 4) (by rw [List.length_take, List.length_drop]; omega)
    rw [hx]; simp [xor4, List.range, List.range.loop]
  rw [turn, e]; exact split3.symm
theorem turned_plain {num ep : Nat} {q : List Nat} (hnum : num < 4294967296) (hep : ep < 4294967296) (hq : q.length ≤ 240) (hlt : ∀ x ∈ q, x < 256) {K z : Nat} (hK : K ≤ 252) (hK' : ¬ (8 < K ∧ K < 12) ∧ ¬ (12 < K ∧ K < 16)) (hz : z < 4294967296) (h0 : z ≠ 0) {b' : List Nat} (hb : b' = turn (put num ep q) K z) :
    (4 < K → K < 12 → err num b' = 0 → (bodyOf num b').length ≠ q.length) ∧ (¬ (4 < K ∧ K < 12) → err num b' = 4 ∨ err num b' = 11) := by
  have hl := put_length (num := num) (epoch := ep) hq
  have hbl := put_lt (num := num) (epoch := ep) hlt
  have hok : err num (put num ep q) = 0 := by rw [put_err hnum hep hq, if_pos rfl]
  obtain ⟨hm, _⟩ := put_parts hnum hep hq
  subst hb
  constructor
  · intro h1 h2 he hne
    refine turned hl hbl (num := num) (num' := num) hK hz h0 hok hK' he (fun _ _ => ?_)
    have hf := (err_ok he).1
    rw [bodyOf, if_pos he, body_len hf] at hne
    rw [hne, hm]
  · intro h1
    rcases err_kinds num (turn (put num ep q) K z) with h | h | h
    · exact (turned hl hbl (num := num) (num' := num) hK hz h0 hok hK' h (fun a b => absurd ⟨a, b⟩ h1)).elim
    · exact Or.inl h
    · exact Or.inr h
end Pg

def yb (z i : Nat) : Nat := (z >>> (8 * i)) % 256
theorem yb_lt (z i : Nat) : yb z i < 256 := Nat.mod_lt _ (by decide)
theorem yb_ints (z : Nat) : IntKind.u8.wrap (z : Int) = (yb z 0 : Nat) ∧ IntKind.u8.wrap ((z : Int) / 256) = (yb z 1 : Nat) ∧ IntKind.u8.wrap ((z : Int) / 65536) = (yb z 2 : Nat) ∧ IntKind.u8.wrap ((z : Int) / 16777216) = (yb z 3 : Nat) := by
  have e : ∀ n : Int, IntKind.u8.wrap n = n % 256 := fun n => IntKind.wrap_u8 n
  simp only [e, yb, Nat.shiftRight_eq_div_pow]
  refine ⟨?_, ?_, ?_, ?_⟩
  · show _ = ((z / 1 % 256 : Nat) : Int); omega
  · show _ = ((z / 256 % 256 : Nat) : Int); omega
  · show _ = ((z / 65536 % 256 : Nat) : Int); omega
  · show _ = ((z / 16777216 % 256 : Nat) : Int); omega

set_option maxRecDepth 100000 in
set_option maxHeartbeats 16000000 in
theorem pagesTurned_walk (w : World) (num ep : Nat) (hnum : num < 4294967296) (hep : ep < 4294967296) (pa : Option Addr) (n c : Nat) (q : List Nat) (hQ : Bytes w pa n c q) (x : Nat) (hx : x < 256) (z : Nat) (hz : z < 4294967296) :
    Calls Tryd.prog 4 #[.agg #[.int .u32 (num : Nat), .int .u32 (ep : Nat), .slice pa n c], .int .u8 (x : Nat), .int .u32 (z : Nat)] w (LawPost w) := by
  have HQ := Lib.hid hQ
  have Hnum := Lib.hid hnum
  have Hep := Lib.hid hep
  have Hz := Lib.hid hz
  have hmx := hQ.nmax
  clear hQ hnum hep
  by_cases hlen : 240 < n
  · have h1 : (240 : Int) < (n : Nat) := by omega
    clear hlen
    go_enter Tryd.func4, Tryd.ntmps4
    go_wp2_with fail
    refine (alive_is _).mono ?_
    rintro e w1 ⟨rfl, t1⟩
    have T1 := Lib.hid (((Touch.refl No w).alloc (.cells #[.int .u32 (num : Nat), .int .u32 (ep : Nat), .slice pa n c] 25)).trans t1)
    clear t1
    go_wp2_with fail
    refine (alive_is _).mono ?_
    rintro e w2 ⟨rfl, t2⟩
    have T2 := Lib.hid (T1.out.trans t2)
    clear t2
    go_wp2
    go_ret
    exact ⟨rfl, T2.out⟩
  · have h1 : ¬ (240 : Int) < (n : Nat) := by omega
    clear hmx
    obtain ⟨bs, hbs⟩ : ∃ bs, Pg.put num ep q = bs := ⟨_, rfl⟩
    have hn240 : q.length ≤ 240 := by rw [HQ.out.len]; omega
    have hlb : bs.length = 256 := by rw [← hbs]; exact Pg.put_length hn240
    have hltb : ∀ x ∈ bs, x < 256 := by rw [← hbs]; exact Pg.put_lt HQ.out.lt
    have he0 : Pg.err num bs = 0 ∧ Pg.epochOf num bs = ep ∧ Pg.bodyOf num bs = q := by
      rw [← hbs]
      exact ⟨by rw [Pg.put_err Hnum.out Hep.out hn240, if_pos rfl], (Pg.put_get Hnum.out Hep.out hn240).1, (Pg.put_get Hnum.out Hep.out hn240).2⟩
    have Hbs := Lib.hid hbs
    have Hlb := Lib.hid hlb
    have Hltb := Lib.hid hltb
    have He0 := Lib.hid he0
    have Hn240 := Lib.hid (show n ≤ 240 by omega)
    obtain ⟨k0, hk0⟩ : ∃ k0, x % 253 = k0 := ⟨_, rfl⟩
    have hk253 : k0 < 253 := by omega
    have hki : (x : Int) % 253 = (k0 : Nat) := by omega
    have Hk := Lib.hid (And.intro hk253 hki)
    have Hx := Lib.hid hx
    clear hbs hlb hltb he0 hn240 hlen hk0 hz hk253 hx
    clear hki
    go_enter Tryd.func4, Tryd.ntmps4
    go_wp2_with fail
    refine (alive_is _).mono ?_
    rintro e w1 ⟨rfl, t1⟩
    have T1 := Lib.hid (((Touch.refl No w).alloc (.cells #[.int .u32 (num : Nat), .int .u32 (ep : Nat), .slice pa n c] 25)).trans t1)
    clear t1
    have hd : decide ((240 : Int) < (n : Nat)) = false := by simp; omega
    clear h1
    go_wp2_with fail
    refine (pagePut_any _ num ep Hnum.out Hep.out pa n c q HQ.out.len Hn240.out (HQ.out.rd.no T1.out) HQ.out.lt).mono ?_
    rintro e w2 ⟨a2, c2, rfl, o2, t2⟩
    rw [Hbs.out] at o2
    obtain ⟨hc2, hm2, -⟩ := o2.room
    obtain ⟨g2, p2, rfl, hk2⟩ := o2.rd.num (i := 0) (by rw [Hlb.out]; decide)
    have hsf := fun k => o2.soft k
    have G2 := Lib.hid (lt_of_cell hk2)
    have B2 := Lib.hid (Nat.le_trans T1.out.size (o2.block (k := g2) rfl).1)
    have O2 := Lib.hid o2.rd
    have S2 := Lib.hid hsf
    have T2 := Lib.hid (T1.out.trans t2)
    clear o2 t2 T1 hk2 hsf
    clear hd
    have hxi : (x : Int) ≤ 255 := by have := Hx.out; omega
    go_upto_region 10 with fail
    go_cut [49] (fun s49 wx => ∃ t : Bool, s49 = .bool t ∧ Hid (t = true ↔ 8 < k0 ∧ k0 < 12) ∧ Hid (w2 = wx))
    case first =>
      have hki := Hk.out.2
      by_cases c1 : 8 < k0
      · have d1 : decide ((8 : Int) < (x : Int) % 253) = true := by rw [hki]; simp; omega
        by_cases c2 : k0 < 12
        · have d2 : decide ((x : Int) % 253 < 12) = true := by rw [hki]; simp; omega
          have hr : Hid (8 < k0 ∧ k0 < 12) := ⟨c1, c2⟩
          clear c1 c2 hki
          go_wp2_with fail
          go_meet
          exact ⟨true, rfl, Iff.intro (fun _ => hr.out) (fun _ => rfl), rfl⟩
        · have d2 : decide ((x : Int) % 253 < 12) = false := by rw [hki]; simp; omega
          have hr : Hid (false = true ↔ 8 < k0 ∧ k0 < 12) := Iff.intro (fun h => by cases h) (fun h => absurd h.2 c2)
          clear c1 c2 hki
          go_wp2_with fail
          go_meet
          exact ⟨false, rfl, hr, rfl⟩
      · have d1 : decide ((8 : Int) < (x : Int) % 253) = false := by rw [hki]; simp; omega
        have hr : Hid (false = true ↔ 8 < k0 ∧ k0 < 12) := Iff.intro (fun h => by cases h) (fun h => absurd h.1 c1)
        clear c1 hki
        go_wp2_with fail
        go_meet
        exact ⟨false, rfl, hr, rfl⟩
    case rest =>
      obtain ⟨t, rfl, ht, hw⟩ := hcut
      have hww := hw.out
      clear hw
      subst hww
      go_upto_if 49 with fail
      go_cut [12] (fun s12 wx => ∃ K : Nat, s12 = .int .i64 ((K : Nat) : Int) ∧ Hid (K ≤ 252 ∧ ¬ (8 < K ∧ K < 12)) ∧ Hid (w2 = wx))
      case first =>
        have hki := Hk.out.2
        have hk253 := Hk.out.1
        cases t with
        | true =>
          clear hki hk253
          go_wp2_with fail
          go_meet
          exact ⟨8, rfl, ⟨by decide, by decide⟩, rfl⟩
        | false =>
          have hr : Hid (k0 ≤ 252 ∧ ¬ (8 < k0 ∧ k0 < 12)) := ⟨by omega, fun h => by have := ht.out.2 h; cases this⟩
          have hk' := Lib.hid hki
          clear hki hk253
          go_wp2_with fail
          go_meet
          exact ⟨k0, by rw [← hk'.out], hr, rfl⟩
      case rest =>
        obtain ⟨K, rfl, hK, hw⟩ := hcut
        have hww := hw.out
        clear hw ht
        subst hww
        have hK9 : (K : Int) ≤ 252 := by have := hK.out.1; omega
        go_upto_region 12 with fail
        go_cut [55] (fun s55 wx => ∃ t : Bool, s55 = .bool t ∧ Hid (t = true ↔ 12 < K ∧ K < 16) ∧ Hid (w2 = wx))
        case first =>
          by_cases c1 : 12 < K
          · have d1 : decide ((12 : Int) < (K : Nat)) = true := by simp; omega
            by_cases c2 : K < 16
            · have d2 : decide ((K : Int) < 16) = true := by simp; omega
              have hr : Hid (12 < K ∧ K < 16) := ⟨c1, c2⟩
              clear c1 c2
              go_wp2_with fail
              go_meet
              exact ⟨true, rfl, Iff.intro (fun _ => hr.out) (fun _ => rfl), rfl⟩
            · have d2 : decide ((K : Int) < 16) = false := by simp; omega
              have hr : Hid (false = true ↔ 12 < K ∧ K < 16) := Iff.intro (fun h => by cases h) (fun h => absurd h.2 c2)
              clear c1 c2
              go_wp2_with fail
              go_meet
              exact ⟨false, rfl, hr, rfl⟩
          · have d1 : decide ((12 : Int) < (K : Nat)) = false := by simp; omega
            have hr : Hid (false = true ↔ 12 < K ∧ K < 16) := Iff.intro (fun h => by cases h) (fun h => absurd h.1 c1)
            clear c1
            go_wp2_with fail
            go_meet
            exact ⟨false, rfl, hr, rfl⟩
        case rest =>
          obtain ⟨t, rfl, ht, hw⟩ := hcut
          have hww := hw.out
          clear hw
          subst hww
          go_upto_if 55 with fail
          go_cut [12] (fun s12 wx => ∃ J : Nat, s12 = .int .i64 ((J : Nat) : Int) ∧ Hid (J ≤ 252 ∧ ¬ (8 < J ∧ J < 12) ∧ ¬ (12 < J ∧ J < 16)) ∧ Hid (w2 = wx))
          case first =>
            cases t with
            | true =>
              go_wp2_with fail
              go_meet
              exact ⟨12, rfl, ⟨by decide, by decide, by decide⟩, rfl⟩
            | false =>
              have hr : Hid (K ≤ 252 ∧ ¬ (8 < K ∧ K < 12) ∧ ¬ (12 < K ∧ K < 16)) := ⟨hK.out.1, hK.out.2, fun h => by have := ht.out.2 h; cases this⟩
              go_wp2_with fail
              go_meet
              exact ⟨K, rfl, hr, rfl⟩
          case rest =>
            obtain ⟨J, rfl, hJ, hw⟩ := hcut
            have hww := hw.out
            clear hw ht hK hK9
            subst hww
            have hJ9 : (J : Int) ≤ 252 := by have := hJ.out.1; omega
            go_wp2_with fail
            go_loopg [13] 4 (fun g s13 wr => ∃ i : Nat, i + g = 4 ∧ s13 = .int .i64 ((i : Nat) : Int) ∧ Hid (Rd wr (some ⟨g2, p2, none⟩) (nums .u8 (Pg.tset bs J z i))) ∧ Hid (∀ k, wr.frozen? ⟨g2, k, none⟩ = false) ∧ Hid (Touch (One g2) w2 wr))
            case atStart => exact ⟨0, rfl, rfl, O2.out, S2.out, Touch.refl _ _⟩
            case round =>
              obtain ⟨i, hig, rfl, R, S, T⟩ := hrel
              cases gk with
              | zero =>
                obtain rfl : i = 4 := by omega
                obtain ⟨b', hb'⟩ : ∃ b', b' = Pg.turn bs J z := ⟨_, rfl⟩
                have R4 : Hid (Rd wr (some ⟨g2, p2, none⟩) (nums .u8 b')) := by
                  have := R.out
                  rw [Pg.tset_turn Hlb.out hJ.out.1, ← hb'] at this; exact this
                have L4 : Hid (b'.length = 256) := by show _ = _; rw [hb']; exact Pg.turn_length Hlb.out hJ.out.1 z
                have K4 : Hid (∀ y ∈ b', y < 256) := by
                  show ∀ y ∈ b', y < 256
                  rw [hb']; exact Pg.turn_lt Hltb.out J z
                have T4 : Hid (Touch No w wr) := T2.out.then T.out (fun k hk e => absurd hk (Nat.not_lt.2 (by have e2 : k = g2 := e; rw [e2]; exact B2.out)))
                have hz0 : Hid (z = 0 → b' = bs) := fun h => by rw [hb', h]; exact Pg.turn_zero bs J (by rw [Hlb.out]; have := hJ.out.1; omega)
                have hpl : Hid (z ≠ 0 → (4 < J → J < 12 → Pg.err num b' = 0 → (Pg.bodyOf num b').length ≠ q.length) ∧ (¬ (4 < J ∧ J < 12) → Pg.err num b' = 4 ∨ Pg.err num b' = 11)) := fun h =>
                  Pg.turned_plain Hnum.out Hep.out (by rw [HQ.out.len]; exact Hn240.out) HQ.out.lt hJ.out.1 hJ.out.2 Hz.out h (by rw [Hbs.out]; exact hb')
                obtain ⟨er, her⟩ : ∃ er, Pg.err num b' = er := ⟨_, rfl⟩
                have Her := Lib.hid her
                clear R S T hb' her
                go_wp2_with fail
                refine (refused_any _ num _ 256 c2 b' L4.out hc2 hm2 R4.out K4.out er Her.out).mono ?_
                rintro e w5 ⟨rfl, t5⟩
                have R5 := Lib.hid (R4.out.no t5)
                have T5 := Lib.hid (T4.out.trans t5)
                clear t5 R4 T4
                go_wp2_with fail
                refine (pageGet_any _ num _ 256 c2 b' L4.out hc2 hm2 R5.out K4.out).mono ?_
                rintro e w6 ⟨a6, m6, rfl, hm6, ⟨c6, o6⟩, t6⟩
                have T6 := Lib.hid (T5.out.trans t6)
                have O6 := Lib.hid o6.rd
                have HM6 := Lib.hid hm6
                rw [Her.out]
                clear t6 o6 hm6 T5 R5
                by_cases hz : z = 0
                · have hbb := hz0.out hz
                  have h1 := He0.out
                  have e0 : er = 0 := by rw [← Her.out, hbb]; exact h1.1
                  have e1 : Pg.epochOf num b' = ep := by rw [hbb]; exact h1.2.1
                  have e2 : Pg.bodyOf num b' = q := by rw [hbb]; exact h1.2.2
                  have e3 : m6 = n := by rw [← HM6.out, e2]; exact HQ.out.len
                  have O7 : Hid (Rd w6 a6 (nums .u8 q)) := by have := O6.out; rw [e2] at this; exact this
                  rw [e1]
                  subst e0 e3 hz
                  have hcq := conv_str w6 pa m6 c q HQ.out.len (HQ.out.rd.no T6.out)
                  clear hbb h1 e1 e2 O6 HM6
                  go_wp2_with fail
                  refine (got_yes _ ep a6 m6 m6 q HQ.out.len O7.out).mono ?_
                  rintro e w' ⟨rfl, rfl⟩
                  go_wp2
                  go_ret
                  exact ⟨rfl, T6.out⟩
                · have hzi : ((z : Int) == 0) = false := by simp; omega
                  have hp := hpl.out hz
                  rw [Her.out] at hp
                  have HP := Lib.hid hp
                  obtain ⟨E6, hE6⟩ : ∃ E6, Pg.epochOf num b' = E6 := ⟨_, rfl⟩
                  rw [hE6]
                  clear hp hz hE6
                  have hw23 : ∀ (Fin : Prop), Fin → Fin := fun _ h => h
                  clear hw23
                  by_cases c1 : 4 < J
                  · have d1 : decide ((4 : Int) < (J : Nat)) = true := by simp; omega
                    by_cases c2 : J < 12
                    · have d2 : decide ((J : Int) < 12) = true := by simp; omega
                      by_cases h0 : er = 0
                      · subst h0
                        have hne : ((m6 : Int) != (n : Int)) = true := by
                          have h1 := HP.out.1 c1 c2 rfl
                          rw [HM6.out, HQ.out.len] at h1
                          simp; omega
                        clear c1 c2 hJ9
                        go_wp2
                        go_ret
                        exact ⟨rfl, T6.out⟩
                      · have hne : ((er : Int) != 0) = true := by simp; omega
                        clear c1 c2 h0 hJ9
                        go_wp2
                        go_ret
                        exact ⟨rfl, T6.out⟩
                    · have d2 : decide ((J : Int) < 12) = false := by simp; omega
                      have h4 := HP.out.2 (fun h => c2 h.2)
                      clear c1 c2 hJ9
                      rcases h4 with rfl | rfl
                      all_goals
                        go_wp2
                        go_ret
                        exact ⟨rfl, T6.out⟩
                  · have d1 : decide ((4 : Int) < (J : Nat)) = false := by simp; omega
                    have h4 := HP.out.2 (fun h => c1 h.1)
                    clear c1 hJ9
                    rcases h4 with rfl | rfl
                    all_goals
                      go_wp2
                      go_ret
                      exact ⟨rfl, T6.out⟩
              | succ g =>
                obtain ⟨v, hv⟩ : ∃ v, (Pg.tset bs J z i).getD (J + i) 0 = v := ⟨_, rfl⟩
                have hJi : J + i < (Pg.tset bs J z i).length := by rw [Pg.tset_length, Hlb.out]; have := hJ.out.1; omega
                have hv256 : v < 256 := by
                  rw [← hv, List.getD_eq_getElem?_getD, List.getElem?_eq_getElem hJi]
                  exact Pg.tset_lt Hltb.out J z i _ (List.getElem_mem _)
                obtain ⟨u, hu⟩ : ∃ u, v ^^^ yb z i = u := ⟨_, rfl⟩
                have hxor : bits BinOp.xor .u8 (v : Int) (yb z i : Nat) = (u : Nat) := by rw [← hu]; exact u8_xor_nat v (yb z i) hv256 (yb_lt z i)
                obtain ⟨g', o', e', hce⟩ := R.out.num (i := J + i) hJi
                cases e'
                rw [hv] at hce
                have hsf := S.out (p2 + (J + i))
                have Rn : Hid (Rd (wr.setCell ⟨g2, p2 + (J + i), none⟩ (.int .u8 (u : Nat))) (some ⟨g2, p2, none⟩) (nums .u8 (Pg.tset bs J z (i + 1)))) := by
                  have := R.out.set (p := J + i) (by rw [nums_length]; exact hJi) (.int .u8 (u : Nat))
                  rw [nums, ← List.map_set (f := fun (x : Nat) => Value.int .u8 (x : Int)) (a := u)] at this
                  rw [Pg.tset, hv]
                  have e : v ^^^ z >>> (8 * i) % 256 = u := hu
                  rw [e]; exact this
                have Sn : Hid (∀ k, (wr.setCell ⟨g2, p2 + (J + i), none⟩ (.int .u8 (u : Nat))).frozen? ⟨g2, k, none⟩ = false) := fun k => by rw [World.frozen?_setCell]; exact S.out k
                have Tn : Hid (Touch (One g2) w2 (wr.setCell ⟨g2, p2 + (J + i), none⟩ (.int .u8 (u : Nat)))) := T.out.setCell (p := ⟨g2, p2 + (J + i), none⟩) (fun _ => rfl) _
                have yi := yb_ints z
                have Yi := Lib.hid yi
                have hi4 : i < 4 := by omega
                clear yi hu hv hv256 hJi
                obtain rfl | rfl | rfl | rfl : i = 0 ∨ i = 1 ∨ i = 2 ∨ i = 3 := by omega
                · have y := Yi.out.1
                  have b5 : IntKind.i64.wrap 0 = 0 := by decide
                  rw [Nat.add_zero] at hce hsf Rn Sn Tn
                  have b1 : (J : Int) < 256 := by omega
                  have b2 : (0 : Int) ≤ (J : Int) := by omega
                  have b3 : IntKind.i64.wrap (J : Int) = (J : Int) := IntWalk.i64_in _ (by omega)
                  go_wp2_with fail
                  go_still_tail 17, (by kernel_rfl)
                  go_wp2
                  go_roundg g
                  case measure => omega
                  case rel => exact ⟨1, by omega, by go_num, Rn.out.no (Touch.refl No _).drew, fun k => Sn.out k, Tn.out.drew⟩
                · have y := Yi.out.2.1
                  have b5 : IntKind.i64.wrap 8 = 8 := by decide
                  have b1 : (J : Int) + 1 < 256 := by omega
                  have b2 : (0 : Int) ≤ (J : Int) + 1 := by omega
                  have b3 : IntKind.i64.wrap ((J : Int) + 1) = (J : Int) + 1 := IntWalk.i64_in _ (by omega)
                  have b4 : ((J : Int) + 1).toNat = J + 1 := by omega
                  go_wp2_with fail
                  go_still_tail 17, (by kernel_rfl)
                  go_wp2
                  go_roundg g
                  case measure => omega
                  case rel => exact ⟨2, by omega, by go_num, Rn.out.no (Touch.refl No _).drew, fun k => Sn.out k, Tn.out.drew⟩
                · have y := Yi.out.2.2.1
                  have b5 : IntKind.i64.wrap 16 = 16 := by decide
                  have b1 : (J : Int) + 2 < 256 := by omega
                  have b2 : (0 : Int) ≤ (J : Int) + 2 := by omega
                  have b3 : IntKind.i64.wrap ((J : Int) + 2) = (J : Int) + 2 := IntWalk.i64_in _ (by omega)
                  have b4 : ((J : Int) + 2).toNat = J + 2 := by omega
                  go_wp2_with fail
                  go_still_tail 17, (by kernel_rfl)
                  go_wp2
                  go_roundg g
                  case measure => omega
                  case rel => exact ⟨3, by omega, by go_num, Rn.out.no (Touch.refl No _).drew, fun k => Sn.out k, Tn.out.drew⟩
                · have y := Yi.out.2.2.2
                  have b5 : IntKind.i64.wrap 24 = 24 := by decide
                  have b1 : (J : Int) + 3 < 256 := by omega
                  have b2 : (0 : Int) ≤ (J : Int) + 3 := by omega
                  have b3 : IntKind.i64.wrap ((J : Int) + 3) = (J : Int) + 3 := IntWalk.i64_in _ (by omega)
                  have b4 : ((J : Int) + 3).toNat = J + 3 := by omega
                  go_wp2_with fail
                  go_still_tail 17, (by kernel_rfl)
                  go_wp2
                  go_roundg g
                  case measure => omega
                  case rel => exact ⟨4, by omega, by go_num, Rn.out.no (Touch.refl No _).drew, fun k => Sn.out k, Tn.out.drew⟩
end Go.Proofs.YtbglbomnonkljaaDoor
