/-
  Package drydockref16 by its own text: Pages, may.
  Package drydockref16 by its own text: Write.
-/
import Derived.Test.YtkiehoboeiengaaGreatDoorK39
import Derived.Test.YtkiehoboeiengaaGreatDoorK44
import Derived.Deep.RegionLawGrows
namespace Go.Proofs.YtkiehoboeiengaaGreatDoor
open Go Go.RowKit
set_option linter.unusedSimpArgs false
set_option linter.unusedVariables false

theorem refExPages_any (w : World) (n : Int) (h1 : -9223372036854775808 ≤ n) (h2 : n ≤ 9223372036854775807) :
    Calls Tryz.prog 32 #[.int .i64 n] w fun e w' => e = .returned (.int .i64 (Ex.pages n.toNat : Nat)) ∧ w = w' := by
  by_cases h : n ≤ 0
  · have hp : Ex.pages n.toNat = 0 := by rw [show n.toNat = 0 from by omega]; rfl
    rw [hp]
    clear hp
    go_enter Tryz.func32, Tryz.ntmps32
    go_wp2
    go_ret
    exact ⟨rfl, rfl⟩
  · have hd : 0 ≤ n - 1 := by omega
    have HP : Hid ((n - 1) / 240 + 1 = ((Ex.pages n.toNat : Nat) : Int)) := by
      show _ = _
      unfold Ex.pages; omega
    go_enter Tryz.func32, Tryz.ntmps32
    go_wp2
    go_ret
    exact ⟨by rw [← HP.out]; rfl, rfl⟩
def RefMay (w : World) (ok : Bool) (e : Ending) (w' : World) : Prop := e = .returned (.bool ok) ∧ Touch No w w'
set_option maxRecDepth 100000 in
set_option maxHeartbeats 4000000 in
theorem refMay_any {w : World} {g : Nat} {D : Dk.Disk} {vs vn vw : Value} (h : RdAt w g D vs vn vw) (a : Option Addr) (n c : Nat) (ids : List Nat) (hn : ids.length = n) (hnm : (n : Int) ≤ 1000000000000) (hlt : ∀ x ∈ ids, x < 4294967296) (hr : Rd w a (nums .u32 ids)) (bytes : Int) (hb1 : -9223372036854775808 ≤ bytes) (hb2 : bytes ≤ 9223372036854775807) (ok : Bool) (hok : ok = true ↔ Ex.may D ids bytes.toNat ∧ 0 ≤ bytes) :
    Calls Tryz.prog 121 #[.pointer (some ⟨g, 0, none⟩), .slice a n c, .int .i64 bytes] w (RefMay w ok) := by
  by_cases h0 : bytes < 0
  · obtain rfl : ok = false := by
      cases ok with
      | false => rfl
      | true => exact absurd (hok.1 rfl).2 (by omega)
    clear hok h hr hlt hn
    go_enter Tryz.func121, Tryz.ntmps121
    go_wp2
    go_ret
    exact ⟨rfl, Touch.refl _ _⟩
  · have CP := Lib.hid (refExPages_any w bytes hb1 hb2)
    obtain ⟨m, rfl⟩ : ∃ m : Nat, bytes = (m : Nat) := ⟨bytes.toNat, by omega⟩
    rw [Int.toNat_natCast] at CP hok
    obtain ⟨P, hP⟩ : ∃ P, Ex.pages m = P := ⟨_, rfl⟩
    have hP2 : (P : Int) ≤ 9223372036854775807 := by
      have : Ex.pages m ≤ m := by unfold Ex.pages; omega
      omega
    rw [hP] at CP
    by_cases hp : n = P
    · have hpi : ((n : Int) != (P : Int)) = false := by simp; omega
      have HM : Hid (MayK D ids → ok = true) := fun hK => hok.2 ⟨(may_iff D ids m).2 ⟨hK, by rw [hP, ← hp]; exact hn⟩, by omega⟩
      have HNM : Hid (¬ MayK D ids → ok = false) := fun hK => by
        cases ok with
        | false => rfl
        | true => exact absurd ((may_iff D ids m).1 (hok.1 rfl).1).1 hK
      have HR := Lib.hid h
      have Hr := Lib.hid hr
      have Hlt := Lib.hid hlt
      have Hn := Lib.hid hn
      obtain ⟨L, hL⟩ : ∃ L, D.seen.length = L := ⟨_, rfl⟩
      have hLt : (L : Int) ≤ 16384 := by have := h.ok.top; omega
      have HL := Lib.hid hL
      clear hok h hr hlt hn hP hp hL
      go_enter Tryz.func121, Tryz.ntmps121
      go_wp2_with fail
      refine CP.out.mono ?_
      rintro e w1 ⟨rfl, rfl⟩
      clear CP
      go_wp2_with fail
      go_loopg [7] n (fun gh s7 wr => ∃ k : Nat, k + gh = n ∧ s7 = .int .i64 ((k : Nat) : Int) ∧ Hid (MayK D (ids.take k)) ∧ Hid (Touch No w wr))
      case atStart => exact ⟨0, by omega, rfl, ⟨List.nodup_nil, fun x hx => by cases hx⟩, Touch.refl No w⟩
      case round =>
        obtain ⟨k, hkg, rfl, K, T⟩ := hrel
        cases gk with
        | zero =>
          obtain rfl : k = n := by omega
          have hK : MayK D ids := by have := K.out; rw [List.take_of_length_le (by rw [Hn.out]; omega)] at this; exact this
          obtain rfl := HM.out hK
          clear hK
          go_wp2
          go_ret
          exact ⟨rfl, T.out⟩
        | succ g' =>
          have hkn : k < n := by omega
          have hki : (k : Int) < (n : Nat) := by omega
          obtain ⟨x, hx⟩ : ∃ x, ids.getD k 0 = x := ⟨_, rfl⟩
          have hxm : x < 4294967296 := by
            rw [← hx, List.getD_eq_getElem?_getD, List.getElem?_eq_getElem (by rw [Hn.out]; exact hkn)]
            exact Hlt.out _ (List.getElem_mem _)
          have hxi : (x : Int) ≤ 4294967295 := by omega
          obtain ⟨gb, go, rfl, hcx⟩ := (Hr.out.no T.out).num (i := k) (by rw [Hn.out]; exact hkn)
          rw [hx] at hcx
          have Hx := Lib.hid hx
          have CL : Hid (∀ j, Calls Tryz.prog 153 #[.pointer (some ⟨g, 0, none⟩)] (wr.drewN j) fun e w' => e = .returned (.int .i64 (L : Nat)) ∧ w' = wr.drewN j) := fun j => by
            have := refLen_at (HR.out.no (T.out.drewN j))
            rw [HL.out] at this
            exact this.mono fun _ _ ⟨h1, h2⟩ => ⟨h1, h2.symm⟩
          clear hx hkn hxm
          by_cases ho : 4 * x + 4 ≤ L
          · have hoi : (x : Int) * 4 + 4 ≤ (L : Nat) := by omega
            have HO : Hid (onD D x = 0) := by show _ = _; rw [onD, HL.out, if_pos ho]
            clear ho
            go_wp2
            go_quiet ((go_at_call 153; exact Calls.quiet_of_same (CL.out _)))
            go_wp2
            obtain ⟨wo, hwo⟩ : ∃ wo, wo = wr.drewN nq := ⟨_, rfl⟩
            have T2 : Hid (Touch No w wo) := by
              show Touch _ _ _
              rw [hwo]; exact T.out.drewN _
            rw [← hwo]
            clear hwo CL hcx
            go_loopg [8] k (fun gh s8 wx => ∃ j : Nat, j + gh = k ∧ s8 = .int .i64 ((j : Nat) : Int) ∧ Hid (∀ i, i < j → ids.getD i 0 ≠ x) ∧ Hid (Touch No w wx))
            case atStart => exact ⟨0, by omega, rfl, fun i hi => absurd hi (Nat.not_lt_zero _), T2.out⟩
            case round =>
              clear T2
              obtain ⟨j, hjk, rfl, HJ, TJ⟩ := hrel
              cases gk with
              | zero =>
                obtain rfl : j = k := by omega
                have K2 : Hid (MayK D (ids.take (j + 1))) := by
                  show MayK _ _
                  rw [take_snoc (by rw [Hn.out]; omega), Hx.out]
                  refine K.out.snoc (fun hm => ?_) HO.out
                  obtain ⟨i, hi, e⟩ := List.getElem_of_mem hm
                  have hij : i < j := by rw [List.length_take] at hi; omega
                  refine HJ.out i hij ?_
                  rw [List.getD_eq_getElem?_getD, List.getElem?_eq_getElem (by rw [Hn.out]; omega), ← e, List.getElem_take]; rfl
                go_wp2
                go_roundg g'
                case measure => omega
                case rel => exact ⟨j + 1, by omega, by go_num, K2.out, TJ.out⟩
              | succ g2 =>
                have hji : (j : Int) < (k : Nat) := by omega
                obtain ⟨y, hy⟩ : ∃ y, ids.getD j 0 = y := ⟨_, rfl⟩
                obtain ⟨_, _, e1, hc1⟩ := (Hr.out.no TJ.out).num (i := j) (by rw [Hn.out]; omega)
                cases e1
                obtain ⟨_, _, e1, hc2⟩ := (Hr.out.no TJ.out).num (i := k) (by rw [Hn.out]; omega)
                cases e1
                rw [hy] at hc1
                rw [Hx.out] at hc2
                by_cases hxy : y = x
                · subst hxy
                  have HD : Hid (¬ MayK D ids) := MayK.dup (k := k) (by rw [Hn.out]; omega) (by
                    rw [Hx.out, ← hy, List.getD_eq_getElem?_getD, List.getElem?_eq_getElem (by rw [Hn.out]; omega)]
                    have hl : j < (ids.take k).length := by rw [List.length_take, Hn.out]; omega
                    have := List.getElem_mem hl
                    rwa [List.getElem_take] at this)
                  obtain rfl := HNM.out HD.out
                  have hyy : ((y : Int) == (y : Int)) = true := by simp
                  clear hy
                  go_wp2
                  go_quiet (fail)
                  go_wp2
                  go_ret
                  exact ⟨rfl, TJ.out.drewN _⟩
                · have hyy : ((y : Int) == (x : Int)) = false := by simpa using (show ¬ (y : Int) = (x : Int) by omega)
                  have HJ2 : Hid (∀ i, i < j + 1 → ids.getD i 0 ≠ x) := fun i hi => by
                    by_cases e : i = j
                    · rw [e, hy]; exact hxy
                    · exact HJ.out i (by omega)
                  clear hy
                  go_wp2
                  go_quiet (fail)
                  go_wp2
                  have T3 := Lib.hid (TJ.out.drewN nq)
                  go_roundg g2
                  case measure => omega
                  case rel => exact ⟨j + 1, by omega, by go_num, HJ2.out, T3.out⟩
          · have hoi : ¬ (x : Int) * 4 + 4 ≤ (L : Nat) := by omega
            have HO : Hid (¬ MayK D ids) := MayK.out (k := k) (by rw [Hn.out]; omega) (by rw [Hx.out, onD, HL.out, if_neg ho]; decide)
            clear ho
            obtain rfl := HNM.out HO.out
            go_wp2
            go_quiet ((go_at_call 153; exact Calls.quiet_of_same (CL.out _)))
            go_wp2
            go_ret
            exact ⟨rfl, T.out.drewN _⟩
    · have hpi : ((n : Int) != (P : Int)) = true := by simp; omega
      obtain rfl : ok = false := by
        cases ok with
        | false => rfl
        | true => exact absurd ((may_iff D ids m).1 (hok.1 rfl).1).2 (by omega)
      clear hok h hr hlt hn hP hp
      go_enter Tryz.func121, Tryz.ntmps121
      go_wp2_with fail
      refine CP.out.mono ?_
      rintro e w1 ⟨rfl, rfl⟩
      clear CP
      go_wp2
      go_ret
      exact ⟨rfl, Touch.refl _ _⟩
end Go.Proofs.YtkiehoboeiengaaGreatDoor
namespace Go.Proofs.YtkiehoboeiengaaGreatDoor
open Go Go.RowKit
set_option linter.unusedSimpArgs false
set_option linter.unusedVariables false

theorem piece_take (bs : List Nat) (k : Nat) : (nums .u8 (bs.drop (240 * k))).take (min 240 (bs.length - 240 * k)) = nums .u8 (Ex.piece bs k) := by
  rw [nums, ← List.map_take, Ex.piece, nums]
  congr 2
  unfold Ex.plen Ex.upto
  omega
theorem piece_drop (bs : List Nat) (k : Nat) : (nums .u8 (bs.drop (240 * k))).drop (min 240 (bs.length - 240 * k)) = nums .u8 (bs.drop (240 * (k + 1))) := by
  rw [nums, ← List.map_drop, List.drop_drop, nums]
  by_cases h : 240 * k + 240 ≤ bs.length
  · rw [show 240 * k + min 240 (bs.length - 240 * k) = 240 * (k + 1) from by omega]
  · rw [show bs.drop (240 * k + min 240 (bs.length - 240 * k)) = [] from List.drop_eq_nil_of_le (by omega), show bs.drop (240 * (k + 1)) = [] from List.drop_eq_nil_of_le (by omega)]
set_option maxRecDepth 100000 in
set_option maxHeartbeats 8000000 in
theorem refExWrite_any (w : World) (g : Nat) (D : Dk.Disk) (A : Nat → Prop) (h : Al w [Part.rdisk g D] A) (ep : Nat) (hep : ep < 4294967296) (a : Option Addr) (n c : Nat) (ids : List Nat) (hn : ids.length = n) (hnm : (n : Int) ≤ 1000000000000) (Hki : Keep w A a (nums .u32 ids)) (hil : ∀ x ∈ ids, x < 4294967296)
    (a' : Option Addr) (m c' : Nat) (bs : List Nat) (hm : bs.length = m) (hcap : m ≤ c') (hmax : (c' : Int) ≤ 140737488355328) (Hkb : Keep w A a' (nums .u8 bs)) (hbl : ∀ x ∈ bs, x < 256) (hw : D.waits.length + 4 * Ex.pages m ≤ 100000) :
    Calls Tryz.prog 28 #[.pointer (some ⟨g, 0, none⟩), .int .u32 (ep : Nat), .slice a n c, .slice a' m c'] w fun e w' => e = .returned (.int .i64 (Ex.wE D ids m : Nat)) ∧ TurnsL w A [Part.rdisk g (Ex.wD D ep ids bs)] w' := by
  obtain ⟨I, hi0, hi1, hi2, hi3⟩ := u8_info
  have HI := Lib.hid (And.intro hi0 (And.intro hi1 (And.intro hi2 hi3)))
  obtain ⟨vs, vn, vw, hR, _⟩ := al_rdisk h
  by_cases hM : Ex.may D ids m
  · have CM := Lib.hid (refMay_any hR a n c ids hn hnm hil Hki.1 (m : Nat) (by omega) (by omega) true (by rw [Int.toNat_natCast]; exact ⟨fun _ => ⟨hM, by omega⟩, fun _ => rfl⟩))
    have hnp : n = Ex.pages m := by rw [← hn]; exact hM.2.2
    have HM : Hid (Ex.may D ids bs.length) := by rw [hm]; exact hM
    have HA := Lib.hid h
    have HKi : Hid (∀ w', Touch A w w' → Rd w' a (nums .u32 ids)) := fun w' t => by
      by_cases hv : nums .u32 ids = []
      · rw [hv]; exact Rd.nil _ _
      · exact Hki.1.touch t (fun b o e _ => Hki.2 b o e hv)
    have HKb : Hid (∀ w', Touch A w w' → Rd w' a' (nums .u8 bs)) := fun w' t => by
      by_cases hv : nums .u8 bs = []
      · rw [hv]; exact Rd.nil _ _
      · exact Hkb.1.touch t (fun b o e _ => Hkb.2 b o e hv)
    have HFin : Hid (Ex.wD D ep ids bs = Ex.wr D ep ids bs n) := by show _ = _; rw [Ex.wD, if_pos HM.out, hm, ← hnp]
    have HE : Hid (Ex.wE D ids m = 0) := by show _ = _; rw [Ex.wE, if_pos hM]
    have Hn := Lib.hid hn
    have Hm := Lib.hid hm
    have Hil := Lib.hid hil
    have Hbl := Lib.hid hbl
    have Hep := Lib.hid hep
    have Hnp := Lib.hid hnp
    have Hw := Lib.hid hw
    rw [HE.out]
    clear h hR hM hn hm hil hbl hep hnp Hki Hkb hi0 hi1 hi2 hi3 hw HE
    go_enter Tryz.func28, Tryz.ntmps28
    go_wp2_with fail
    refine CM.out.mono ?_
    rintro e w1 ⟨rfl, t1⟩
    have S1 : Hid (TurnsL w A [Part.rdisk g (Ex.wr D ep ids bs 0)] w1) := (TurnsL.same HA.out).no t1
    clear t1 CM HA
    go_wp2_with fail
    go_loopg [3, 9] n (fun gh s3 s9 wr => ∃ (k lk : Nat) (ak : Option Addr) (ck : Nat), k + gh = n ∧ s9 = .int .i64 ((k : Nat) : Int) ∧ s3 = .slice ak lk ck ∧ Hid (lk = bs.length - 240 * k) ∧ lk ≤ ck ∧ (ck : Int) ≤ 140737488355328 ∧ Hid (∀ w', Touch A w w' → Rd w' ak (nums .u8 (bs.drop (240 * k)))) ∧ Hid (TurnsL w A [Part.rdisk g (Ex.wr D ep ids bs k)] wr))
    case atStart => exact ⟨0, m, a', c', by omega, rfl, rfl, by show _ = _; rw [Hm.out]; omega, hcap, hmax, HKb.out, S1.out⟩
    case round =>
      clear S1
      obtain ⟨k, lk, ak, ck, hkg, rfl, rfl, Hlk, hlc, hck, HB, HQ⟩ := hrel
      cases gk with
      | zero =>
        obtain rfl : k = n := by omega
        have FIN : Hid (TurnsL w A [Part.rdisk g (Ex.wD D ep ids bs)] wr) := by show TurnsL _ _ _ _; rw [HFin.out]; exact HQ.out
        go_wp2
        go_ret
        exact ⟨rfl, FIN.out⟩
      | succ g' =>
        have hki : (k : Int) < (n : Nat) := by omega
        have hkn : k < n := by omega
        obtain ⟨x, hx⟩ : ∃ x, ids.getD k 0 = x := ⟨_, rfl⟩
        have hxm : Hid (x < 4294967296) := by
          show _ < _
          rw [← hx, List.getD_eq_getElem?_getD, List.getElem?_eq_getElem (by rw [Hn.out]; exact hkn)]
          exact Hil.out _ (List.getElem_mem _)
        obtain ⟨gb, go, rfl, hcx⟩ := (HKi.out wr HQ.out.1).num (i := k) (by rw [Hn.out]; exact hkn)
        rw [hx] at hcx
        have HCX : Hid (∀ w', Touch A w w' → w'.cell? ⟨gb, go + k, none⟩ = some (.int .u32 (x : Nat))) := fun w' t => by
          obtain ⟨_, _, e1, h1⟩ := (HKi.out w' t).num (i := k) (by rw [Hn.out]; exact hkn)
          cases e1
          rw [hx] at h1
          exact h1
        obtain ⟨n', hn'⟩ : ∃ n', min 240 lk = n' := ⟨_, rfl⟩
        have hkp : k < Ex.pages bs.length := by rw [Hm.out, ← Hnp.out]; exact hkn
        obtain ⟨O', hO', hin⟩ := HQ.out.2
        have HN : Hid (Calls Tryz.prog 62 #[.pointer (some ⟨g, 0, none⟩), .int .u32 (x : Nat), .int .u32 (ep : Nat), .slice ak n' ck] wr.drew fun e w' => e = .returned (.int .i64 0) ∧ TurnsL w A [Part.rdisk g (Ex.wr D ep ids bs (k + 1))] w') := by
          have hl : (Ex.piece bs k).length = n' := by rw [Ex.piece_length, ← hn', Hlk.out]; unfold Ex.plen Ex.upto; omega
          have hrd : Rd wr.drew ak (nums .u8 (Ex.piece bs k)) := by
            have h1 := (HB.out wr.drew HQ.out.1.drew).take n'
            rw [← hn', Hlk.out, piece_take] at h1
            exact h1
          have hc := refPageWrite_any wr.drew g (Ex.wr D ep ids bs k) O' (hO'.no ((Touch.refl No wr).drew)) x ep hxm.out Hep.out ak n' ck (Ex.piece bs k) hl hrd (Ex.piece_lt Hbl.out k) (by rw [Ex.wr_waits HM.out k (by omega)]; have := Hw.out; rw [Hm.out] at hkp; omega)
          have e1 : Ex.at' ids k = x := hx
          have e2 := Ex.wr_ok (ep := ep) HM.out hkp
          rw [e1] at e2
          rw [e2] at hc
          refine hc.mono fun e w' ⟨he, ht⟩ => ⟨he, ?_⟩
          rw [Ex.wr, e1]
          exact TurnsL.comp HQ.out.1.drew hin ht
        have HB2 : Hid (∀ w', Touch A w w' → Rd w' (cutAddr ak ck n') (nums .u8 (bs.drop (240 * (k + 1))))) := fun w' t => by
          have h1 := (HB.out w' t).cut (cap := ck) (l := n') (by rw [nums_length, List.length_drop]; have := Hlk.out; omega)
          rw [← hn', Hlk.out, piece_drop] at h1
          rw [← hn', Hlk.out]
          exact h1
        have HL2 : Hid (lk - n' = bs.length - 240 * (k + 1)) := by show _ = _; rw [← hn']; have := Hlk.out; omega
        clear hx hkn hkp hO' hin HB hxm
        rcases Nat.lt_trichotomy lk 240 with h2 | h2 | h2
        · obtain rfl : lk = n' := by omega
          have h2i : (lk : Int) < 240 := by omega
          have hhead : ∀ wx : World, (Instr.slice 49 (.slice ak lk ck) none (some (.int .i64 (lk : Nat))) none).run Tryz.prog wx = .ok (.slice ak lk ck) wx := fun wx => run_head Tryz.underlying49 HI.out.1 HI.out.2.2.1 ak lk ck lk .i64 hlc wx
          have hcut : ∀ wx : World, (Instr.slice 49 (.slice ak lk ck) (some (.int .i64 (lk : Nat))) none none).run Tryz.prog wx = .ok (.slice (cutAddr ak ck lk) (lk - lk) (ck - lk)) wx := fun wx => run_cut Tryz.underlying49 HI.out.1 HI.out.2.2.1 ak lk ck lk .i64 (Nat.le_refl _) wx
          clear hn' h2
          go_wp2_with fail
          go_region_held3 (fun w' => w'.cell? ⟨gb, go + k, none⟩ = some (.int .u32 (x : Nat))) (first | exact hcx | exact HCX.out _ HQ.out.1.drew | exact HCX.out _ h3.1) ((go_at_call 62; refine HN.out.mono ?_; rintro e w3 ⟨rfl, h3⟩))
          have H3 := Lib.hid h3
          clear h3
          go_wp2_with fail
          go_roundg g'
          case measure => omega
          case rel => exact ⟨k + 1, 0, cutAddr ak ck lk, ck - lk, by omega, by go_num, rfl, by have := HL2.out; show _ = _; omega, by omega, by omega, HB2.out, H3.out⟩
        · subst h2
          obtain rfl : n' = 240 := by omega
          have hhead : ∀ wx : World, (Instr.slice 49 (.slice ak 240 ck) none (some (.int .i64 240)) none).run Tryz.prog wx = .ok (.slice ak 240 ck) wx := fun wx => run_head Tryz.underlying49 HI.out.1 HI.out.2.2.1 ak 240 ck 240 .i64 hlc wx
          have hcut : ∀ wx : World, (Instr.slice 49 (.slice ak 240 ck) (some (.int .i64 240)) none none).run Tryz.prog wx = .ok (.slice (cutAddr ak ck 240) (240 - 240) (ck - 240)) wx := fun wx => run_cut Tryz.underlying49 HI.out.1 HI.out.2.2.1 ak 240 ck 240 .i64 (Nat.le_refl _) wx
          clear hn'
          go_wp2_with fail
          go_region_held3 (fun w' => w'.cell? ⟨gb, go + k, none⟩ = some (.int .u32 (x : Nat))) (first | exact hcx | exact HCX.out _ HQ.out.1.drew | exact HCX.out _ h3.1) ((go_at_call 62; refine HN.out.mono ?_; rintro e w3 ⟨rfl, h3⟩))
          have H3 := Lib.hid h3
          clear h3
          go_wp2_with fail
          go_roundg g'
          case measure => omega
          case rel => exact ⟨k + 1, 240 - 240, cutAddr ak ck 240, ck - 240, by omega, by go_num, rfl, HL2.out, by omega, by omega, HB2.out, H3.out⟩
        · obtain rfl : n' = 240 := by omega
          have h2i : (240 : Int) < (lk : Nat) := by omega
          have hhead : ∀ wx : World, (Instr.slice 49 (.slice ak lk ck) none (some (.int .i64 240)) none).run Tryz.prog wx = .ok (.slice ak 240 ck) wx := fun wx => run_head Tryz.underlying49 HI.out.1 HI.out.2.2.1 ak lk ck 240 .i64 (by omega) wx
          have hcut : ∀ wx : World, (Instr.slice 49 (.slice ak lk ck) (some (.int .i64 240)) none none).run Tryz.prog wx = .ok (.slice (cutAddr ak ck 240) (lk - 240) (ck - 240)) wx := fun wx => run_cut Tryz.underlying49 HI.out.1 HI.out.2.2.1 ak lk ck 240 .i64 (by omega) wx
          clear hn' h2
          go_wp2_with fail
          go_region_held3 (fun w' => w'.cell? ⟨gb, go + k, none⟩ = some (.int .u32 (x : Nat))) (first | exact hcx | exact HCX.out _ HQ.out.1.drew | exact HCX.out _ h3.1) ((go_at_call 62; refine HN.out.mono ?_; rintro e w3 ⟨rfl, h3⟩))
          have H3 := Lib.hid h3
          clear h3
          go_wp2_with fail
          go_roundg g'
          case measure => omega
          case rel => exact ⟨k + 1, lk - 240, cutAddr ak ck 240, ck - 240, by omega, by go_num, rfl, HL2.out, by omega, by omega, HB2.out, H3.out⟩
  · have CM := Lib.hid (refMay_any hR a n c ids hn hnm hil Hki.1 (m : Nat) (by omega) (by omega) false (by rw [Int.toNat_natCast]; exact ⟨(fun h => by cases h), fun h => absurd h.1 hM⟩))
    have hE : Ex.wE D ids m = 1 := by rw [Ex.wE, if_neg hM]
    have hD : Ex.wD D ep ids bs = D := by rw [Ex.wD, hm, if_neg hM]
    rw [hE, hD]
    have Hsame : Hid (∀ w', Touch No w w' → TurnsL w A [Part.rdisk g D] w') := fun w' t => (TurnsL.same h).no t
    clear h hR hM hn hm hil hbl hep Hki Hkb hi0 hi1 hi2 hi3 hw hE hD
    go_enter Tryz.func28, Tryz.ntmps28
    go_wp2_with fail
    refine CM.out.mono ?_
    rintro e w1 ⟨rfl, t1⟩
    have T1 := Lib.hid t1
    clear t1
    go_wp2
    go_ret
    exact ⟨rfl, Hsame.out _ T1.out⟩
end Go.Proofs.YtkiehoboeiengaaGreatDoor
