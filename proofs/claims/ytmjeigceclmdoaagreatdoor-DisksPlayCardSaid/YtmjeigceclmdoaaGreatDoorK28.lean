/-
  Package drydocklaw01 by its own text: a book's lists of bytes, looked at.
-/
import Derived.Test.YtmjeigceclmdoaaGreatDoorK27
namespace Go.Proofs.YtmjeigceclmdoaaGreatDoor
open Go Go.RowKit
set_option linter.unusedSimpArgs false
set_option linter.unusedVariables false

theorem isByte_any (w : World) (k : Nat) (hk : k ≤ 1000000) : Calls Tryz.prog 190 #[.int .u8 ((k % 256 : Nat) : Int), .int .i64 (k : Nat)] w fun e w' => e = .returned (.bool true) ∧ w' = w := by
  have hk' : (k : Int) ≤ 1000000 := by omega
  have h1 : (((k % 256 : Nat) : Int) == (k : Int) % 256) = true := by simp
  go_enter Tryz.func190, Tryz.ntmps190
  go_wp2
  go_ret
  exact ⟨by simp, rfl⟩
set_option maxRecDepth 100000 in
set_option maxHeartbeats 4000000 in
theorem lookByte_any (w : World) (g n : Nat) (vB vI vN vD : Value) (B : List HE) (ls : List Value) (O : Nat → Prop) (hls : ls.length = B.length) (h : Al w (Part.row g 48 (bookCells n vB vI vN vD) :: Part.arr 204 vB B.length (heMid B ls) :: List.zipWith (Part.gr 5 mkB) B ls) O) (hm : B.length ≤ 100000) (hk : ∀ e ∈ B, e.k ≤ 1000000) (hl : ∀ e ∈ B, e.n ≤ 140737488351232) :
    Calls Tryz.prog 122 #[.pointer (some ⟨g, 0, none⟩)] w fun e w' => e = .returned (.bool true) ∧ Touch No w w' := by
  obtain ⟨m, hmB⟩ : ∃ m, B.length = m := ⟨_, rfl⟩
  have hm' : (m : Int) ≤ 100000 := by omega
  have H0 := Lib.hid h
  have HK := Lib.hid hk
  have HL := Lib.hid hl
  have HM := Lib.hid hmB
  have Hls := Lib.hid hls
  clear h hk hl hmB hls
  go_enter Tryz.func122, Tryz.ntmps122
  go_wp2
  go_loopg [3] m (fun gk s2 wr => ∃ i : Nat, i + gk = m ∧ s2 = .int .i64 ((i : Nat) : Int) ∧ Hid (Touch No w wr))
  case atStart => exact ⟨0, by omega, rfl, Touch.refl _ _⟩
  case round =>
    obtain ⟨i, hi, rfl, hT⟩ := hrel
    have hA := H0.out.no hT.out
    obtain ⟨A1, hrow, hA1⟩ := hA.head
    obtain ⟨A2, harr, hA2⟩ := hA.tail.head
    obtain ⟨ab, cb, hvB, hcb, _⟩ := rowSlice harr.1
    have c1 : wr.cell? ⟨g, 1, none⟩ = some (.slice ab m cb) := by
      rw [hrow.1.cell 1, ← HM.out, ← hvB]; rfl
    cases gk with
    | zero =>
      obtain rfl : i = m := by omega
      have HT := hT
      clear hA hrow harr hT
      go_wp2
      go_ret
      exact ⟨rfl, HT.out⟩
    | succ gk =>
      obtain ⟨wo, rfl⟩ : ∃ wo : World, wo = wr := ⟨_, rfl⟩
      have hil : i < B.length := by rw [HM.out]; omega
      have hlt : (i : Int) < (m : Nat) := by omega
      obtain ⟨gb, cb2, hv2, hOb, k0, k1, k2, kf⟩ := mid_at harr hil
      have hek : B[i].k ≤ 1000000 := HK.out _ (List.getElem_mem hil)
      have hel : B[i].n ≤ 140737488351232 := HL.out _ (List.getElem_mem hil)
      have hBi : B[i]? = some B[i] := List.getElem?_eq_getElem hil
      have hli : ls[i]? = some (ls.getD i nilSl) := by
        rw [List.getD_eq_getElem?_getD, List.getElem?_eq_getElem (by rw [Hls.out]; exact hil)]; rfl
      obtain ⟨G, ⟨⟨a', c', hlong, hrE, hrZ, _⟩, _⟩, _⟩ := hA.tail.tail.mem (zip_get (Part.gr 5 mkB) hBi hli)
      rw [hlong] at k1
      obtain ⟨e, he⟩ : ∃ e, B[i] = e := ⟨_, rfl⟩
      rw [he] at k0 k2 hek hel k1 hrE hrZ
      obtain ⟨ea, en, ec, ek⟩ := e
      dsimp only at k0 k1 k2 hek hel hrE hrZ
      have hab : ab = some ⟨gb, 0, none⟩ := by
        rw [hvB] at hv2; cases hv2; rfl
      subst hab
      have hel' : (en : Int) ≤ 140737488351232 := by omega
      have HrE := Lib.hid hrE
      have HrZ := Lib.hid hrZ
      have HT := hT
      clear hA hrow harr hT hBi hli hlong he hvB hv2 hA1 hA2 hOb kf hrE hrZ
      have hne : (((en + 40 : Nat) : Int) != (en : Int) + 40) = false := by simp
      go_wp2
      obtain ⟨w1, hw1⟩ : ∃ w1, w1 = wo.alloc (.cells #[.slice ea en ec, .slice a' (en + 40) c', .int .i64 (ek : Nat)] 204) := ⟨_, rfl⟩
      have t1 : Touch No wo w1 := by rw [hw1]; exact (Touch.refl No wo).alloc _
      have b0 : w1.cell? ⟨wo.heap.size, 0, none⟩ = some (.slice ea en ec) := by rw [hw1, cell_new]; rfl
      have b1 : w1.cell? ⟨wo.heap.size, 1, none⟩ = some (.slice a' (en + 40) c') := by rw [hw1, cell_new]; rfl
      have b2 : w1.cell? ⟨wo.heap.size, 2, none⟩ = some (.int .i64 (ek : Nat)) := by rw [hw1, cell_new]; rfl
      have T1 := Lib.hid t1
      have B0 := Lib.hid b0
      have B1 := Lib.hid b1
      have B2 := Lib.hid b2
      rw [← hw1]
      obtain ⟨hb, Hhb⟩ : ∃ hb, Hid (hb = wo.heap.size) := ⟨_, rfl⟩
      rw [← Hhb.out] at B0 B1 B2 ⊢
      clear hw1 t1 b0 b1 b2 k0 k1 k2 c1 hne
      have hsz0 := T1.out.size
      go_loopg [5] (en + 40) (fun g' s5 wr => ∃ k : Nat, k + g' = en + 40 ∧ s5 = .int .i64 ((k : Nat) : Int) ∧ Hid (Touch No w1 wr))
      case atStart => exact ⟨0, by omega, rfl, Touch.refl _ _⟩
      case round =>
        obtain ⟨k, hkk, rfl, hU⟩ := hrel
        have b0 := hU.out.cell (id : No hb → False) B0.out
        have b1 := hU.out.cell (id : No hb → False) B1.out
        have b2 := hU.out.cell (id : No hb → False) B2.out
        have hen40 : (en : Int) + 40 ≤ 140737488351272 := by omega
        cases gk with
        | zero =>
          obtain rfl : k = en + 40 := by omega
          have HN : Hid (Touch No w wr) := (HT.out.trans T1.out).trans hU.out
          have hnlt : decide ((en : Int) + 40 < (en : Int) + 40) = false := by simp
          clear b0 b2
          go_wp2
          go_roundg gk
          case measure => omega
          case rel => exact ⟨i + 1, by omega, by go_num, HN⟩
        | succ g' =>
          have hkl : (k : Int) < (en : Int) + 40 := by omega
          obtain ⟨gz, oz, rfl, hck⟩ := (HrZ.out.no (T1.out.trans hU.out)) k (mkB ek) (by rw [List.getElem?_replicate, if_pos (by omega)])
          replace hck : wr.cell? ⟨gz, oz + k, none⟩ = some (.int .u8 ((ek % 256 : Nat) : Int)) := hck
          by_cases hke : k < en
          · obtain ⟨ge, oe, rfl, hce⟩ := (HrE.out.no (T1.out.trans hU.out)) k (mkB ek) (by rw [List.getElem?_replicate, if_pos (by omega)])
            replace hce : wr.cell? ⟨ge, oe + k, none⟩ = some (.int .u8 ((ek % 256 : Nat) : Int)) := hce
            have hke' : (k : Int) < (en : Nat) := by omega
            have HU := hU
            have Hkk := Lib.hid hkk
            clear hU hkk hke
            go_wp2
            go_quiet ((go_at_call 190; exact Calls.quiet_of_same (isByte_any _ ek hek)))
            have HN : Hid (Touch No w1 (wr.drewN nq)) := HU.out.drewN nq
            go_wp2
            go_roundg g'
            case measure => have := Hkk.out; omega
            case rel => exact ⟨k + 1, by have := Hkk.out; omega, by go_num, HN⟩
          · have Hke : Hid (¬ k < en) := hke
            have HU := hU
            have Hkk := Lib.hid hkk
            clear hU hkk hke
            go_wp2
            have hkd : decide ((k : Int) < (en : Int)) = false := decide_eq_false (by have := Hke.out; omega)
            have hkd2 : decide (k < en) = false := decide_eq_false Hke.out
            go_quiet ((go_at_call 190; exact Calls.quiet_of_same (isByte_any _ ek hek)))
            have HN : Hid (Touch No w1 (wr.drewN nq)) := HU.out.drewN nq
            clear hkd hkd2
            go_wp2
            go_roundg g'
            case measure => have := Hkk.out; omega
            case rel => exact ⟨k + 1, by have := Hkk.out; omega, by go_num, HN⟩
end Go.Proofs.YtmjeigceclmdoaaGreatDoor
