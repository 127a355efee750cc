/-
  Package drydockref14 by its own text: On, Write, Read: pages on a disk of the reference.
-/
import Derived.Test.YtkiehoboeiengaaGreatDoorK32
import Derived.Test.YtkiehoboeiengaaGreatDoorK36
import Derived.Test.YtkiehoboeiengaaGreatDoorK38
namespace Go.Proofs.YtkiehoboeiengaaGreatDoor
open Go Go.RowKit
set_option linter.unusedSimpArgs false
set_option linter.unusedVariables false

theorem TurnsL.mono {w w' : World} {O O' : Nat → Prop} {l : List Part} (h : TurnsL w O l w') (hO : ∀ k, O k → O' k) : TurnsL w O' l w' := by
  obtain ⟨t, P, h1, h2⟩ := h
  exact ⟨t.mono (fun k _ hk => hO k hk), P, h1, fun k hk => (h2 k hk).imp (hO k) id⟩
set_option maxHeartbeats 1000000 in
theorem refOn_at {w : World} {g : Nat} {D : Dk.Disk} {vs vn vw : Value} (h : RdAt w g D vs vn vw) (num : Nat) (hn : num < 4294967296) :
    Calls Tryz.prog 68 #[.pointer (some ⟨g, 0, none⟩), .int .u32 (num : Nat)] w fun e w' => e = .returned (.bool (decide (onD D num = 0))) ∧ w = w' := by
  have C := Lib.hid (refLen_at h)
  have htop := h.ok.top
  obtain ⟨L, hL⟩ : ∃ L, D.seen.length = L := ⟨_, rfl⟩
  have HR : Hid (decide (onD D num = 0) = decide (4 * num + 4 ≤ L)) := by
    show _ = _
    rw [onD, hL]
    by_cases h : 4 * num + 4 ≤ L <;> simp [h]
  rw [hL] at C htop
  clear h hL
  have h1 : (num : Int) ≤ 4294967295 := by omega
  have h2 : (L : Int) ≤ 16384 := by omega
  clear hn
  by_cases hc : 4 * num + 4 ≤ L
  · have hc' : (num : Int) * 4 + 4 ≤ (L : Nat) := by omega
    rw [decide_eq_true hc] at HR
    clear hc htop
    go_enter Tryz.func68, Tryz.ntmps68
    go_wp2_with fail
    refine C.out.mono ?_
    rintro e w' ⟨rfl, rfl⟩
    go_wp2
    go_ret
    exact ⟨by rw [HR.out]; simp [hc'], rfl⟩
  · have hc' : ¬ (num : Int) * 4 + 4 ≤ (L : Nat) := by omega
    rw [decide_eq_false hc] at HR
    clear hc htop
    go_enter Tryz.func68, Tryz.ntmps68
    go_wp2_with fail
    refine C.out.mono ?_
    rintro e w' ⟨rfl, rfl⟩
    go_wp2
    go_ret
    exact ⟨by rw [HR.out]; simp [hc'], rfl⟩
set_option maxRecDepth 100000 in
set_option maxHeartbeats 4000000 in
theorem refPageWrite_any (w : World) (g : Nat) (D : Dk.Disk) (A : Nat → Prop) (h : Al w [Part.rdisk g D] A) (num epoch : Nat) (hnum : num < 4294967296) (hep : epoch < 4294967296) (a : Option Addr) (n c : Nat) (q : List Nat) (hq : q.length = n) (hr : Rd w a (nums .u8 q)) (hlt : ∀ x ∈ q, x < 256) (hw : D.waits.length ≤ 100000) :
    Calls Tryz.prog 62 #[.pointer (some ⟨g, 0, none⟩), .int .u32 (num : Nat), .int .u32 (epoch : Nat), .slice a n c] w fun e w' => e = .returned (.int .i64 (Pg.wE D num q : Nat)) ∧ TurnsL w A [Part.rdisk g (Pg.wD D num epoch q)] w' := by
  obtain ⟨I, hi0, hi1, hi2, hi3⟩ := u8_info
  have HI := Lib.hid (And.intro hi0 (And.intro hi1 (And.intro hi2 hi3)))
  have HA := Lib.hid h
  have Hnum := Lib.hid hnum
  have Hq := Lib.hid hq
  have Hsame : Hid (∀ w', Touch No w w' → TurnsL w A [Part.rdisk g D] w') := fun w' t => (TurnsL.same h).no t
  have HOn : Hid (∀ w', Touch No w w' → Calls Tryz.prog 68 #[.pointer (some ⟨g, 0, none⟩), .int .u32 (num : Nat)] w' fun e w'' => e = .returned (.bool (decide (onD D num = 0))) ∧ w' = w'') := fun w' t => by
    obtain ⟨vs, vn, vw, hR, _⟩ := al_rdisk (h.no t)
    exact refOn_at hR num hnum
  by_cases hlong : 240 < n
  · have hE : Pg.wE D num q = 1 := by rw [Pg.wE, if_neg (by omega)]
    have hD : Pg.wD D num epoch q = D := by rw [Pg.wD, hE, if_neg (by decide)]
    rw [hE, hD]
    have C := Lib.hid (refPagePut_no w num epoch a n c hlong)
    clear h hr hlt hq hnum hep hE hD hlong hi0 hi1 hi2 hi3
    go_enter Tryz.func62, Tryz.ntmps62
    go_wp2_with fail
    refine C.out.mono ?_
    rintro e w' ⟨rfl, rfl⟩
    go_wp2
    go_ret
    exact ⟨rfl, Hsame.out _ (Touch.refl _ _)⟩
  · have C := Lib.hid (refPagePut_any w num epoch hnum hep a n c q hq (by omega) hr hlt)
    have hXl : (Pg.put num epoch q).length = 256 := Pg.put_length (by omega)
    by_cases ho : onD D num = 0
    · have hE : Pg.wE D num q = 0 := by rw [Pg.wE, if_pos ⟨ho, by omega⟩]
      have hD : Pg.wD D num epoch q = Pg.wr D num (Pg.put num epoch q) 4 := by rw [Pg.wD, hE, if_pos rfl]
      rw [hE, hD]
      have hX8 : Hid (∀ x ∈ Pg.put num epoch q, x < 256) := Pg.put_lt hlt
      obtain ⟨X, hX⟩ : ∃ X, Pg.put num epoch q = X := ⟨_, rfl⟩
      rw [hX] at C hXl hX8 ⊢
      have HXl := Lib.hid hXl
      have hon : Hid (4 * num + 4 ≤ D.seen.length) := by
        show _ ≤ _
        unfold onD at ho
        by_cases h : 4 * num + 4 ≤ D.seen.length
        · exact h
        · rw [if_neg h] at ho; cases ho
      have htop : num ≤ 4096 := by
        obtain ⟨vs, vn, vw, hR, _⟩ := al_rdisk h
        have := hR.ok.top
        have := hon.out
        omega
      have htopI : (num : Int) ≤ 4096 := by omega
      have Hw := Lib.hid hw
      have HOn2 := HOn
      rw [ho] at HOn2
      have hdo : decide (0 = 0) = true := rfl
      clear h hr hlt hq hnum hep hE hD hlong hi0 hi1 hi2 hi3 hX hXl ho HOn hw htop
      go_enter Tryz.func62, Tryz.ntmps62
      go_wp2_with fail
      refine C.out.mono ?_
      rintro e w1 ⟨ab, cb, rfl, ob, t1⟩
      have T1 := Lib.hid t1
      have HOn3 := Lib.hid (HOn2.out w1 t1)
      have hcb : 256 ≤ cb := by
        have := ob.room
        omega
      have hB : Hid (∀ w', Touch (fun k => A k ∧ k < w.heap.size) w1 w' → Rd w' ab (nums .u8 X)) := fun w' t => ob.rd.touch t (fun b o e _ hk => by
        have h1 := (ob.block (k := b) (by rw [e]; rfl)).1
        have h2 := hk.2
        omega)
      clear ob t1 HOn2 C
      go_wp2_with fail
      refine HOn3.out.mono ?_
      rintro e w2 ⟨rfl, rfl⟩
      go_wp2_with fail
      go_loopg [11] 4 (fun gh s11 wr => ∃ k : Nat, k + gh = 4 ∧ s11 = .int .i64 ((k : Nat) : Int) ∧ Hid (TurnsL w1 (fun k => A k ∧ k < w.heap.size) [Part.rdisk g (Pg.wr D num X k)] wr))
      case atStart => exact ⟨0, by omega, rfl, TurnsL.same (HA.out.cut.no T1.out)⟩
      case round =>
        obtain ⟨k, hkg, rfl, HQ⟩ := hrel
        cases gk with
        | zero =>
          obtain rfl : k = 4 := by omega
          have FIN : Hid (TurnsL w A [Part.rdisk g (Pg.wr D num X 4)] wr) := (HQ.out.mono (fun _ h => h.1)).pre T1.out
          go_wp2
          go_ret
          exact ⟨rfl, FIN.out⟩
        | succ g' =>
          have hk4 : (k : Int) < 4 := by omega
          have hkn : k < 4 := by omega
          have hcut : ∀ wx : World, (Instr.slice 49 (.slice ab 256 cb) (some (.int .i64 (64 * (k : Int)))) (some (.int .i64 (64 * ((k : Int) + 1)))) none).run Tryz.prog wx = .ok (.slice (cutAddr ab cb (64 * k)) 64 (cb - 64 * k)) wx := fun wx => by
            have := run_cut2 (P := Tryz.prog) Tryz.underlying49 HI.out.1 HI.out.2.2.1 ab 256 cb (64 * k) (64 * (k + 1)) .i64 .i64 (by omega) (by omega) wx
            rw [show ((64 * k : Nat) : Int) = 64 * (k : Int) from by push_cast; rfl, show ((64 * (k + 1) : Nat) : Int) = 64 * ((k : Int) + 1) from by push_cast; rfl, show 64 * (k + 1) - 64 * k = 64 from by omega] at this
            exact this
          have HN : Hid (∀ O', Al wr [Part.rdisk g (Pg.wr D num X k)] O' → (∀ i, O' i → (A i ∧ i < w.heap.size) ∨ w1.heap.size ≤ i) → Calls Tryz.prog 64 #[.pointer (some ⟨g, 0, none⟩), .int .i64 ((num : Int) * 4 + (k : Int)), .slice (cutAddr ab cb (64 * k)) 64 (cb - 64 * k)] wr fun e w' => e = .returned (.int .i64 0) ∧ TurnsL wr O' [Part.rdisk g (Pg.wr D num X (k + 1))] w') := fun O' hO _ => by
            have hrd : Rd wr (cutAddr ab cb (64 * k)) (nums .u8 (Pg.chunk X k)) := by
              have h1 := ((hB.out wr HQ.out.1).cut (cap := cb) (l := 64 * k) (by rw [nums_length, HXl.out]; exact hcb)).take 64
              rw [Pg.chunk, nums, List.map_take, List.map_drop]
              exact h1
            have hc := refWrite3_in wr g (Pg.wr D num X k) O' hO (4 * num + k) (by rw [Pg.wr_len]; have := hon.out; omega) (cutAddr ab cb (64 * k)) 64 (cb - 64 * k) (Pg.chunk X k) (Pg.chunk_length HXl.out hkn) (by decide) (Pg.chunk_lt hX8.out k) hrd (by rw [Pg.wr_waits]; have := Hw.out; omega)
            rw [show ((4 * num + k : Nat) : Int) = (num : Int) * 4 + (k : Int) from by push_cast; omega] at hc
            exact hc
          obtain ⟨O', hO', hin⟩ := HQ.out.2
          have HN2 := Lib.hid (HN.out O' hO' hin)
          have HQ2 : Hid (∀ w', TurnsL wr O' [Part.rdisk g (Pg.wr D num X (k + 1))] w' → TurnsL w1 (fun k => A k ∧ k < w.heap.size) [Part.rdisk g (Pg.wr D num X (k + 1))] w') := fun w' ht => TurnsL.comp HQ.out.1 hin ht
          clear hkn HN hO' hin
          go_wp2_with fail
          refine HN2.out.mono ?_
          rintro e w3 ⟨rfl, h3⟩
          have H3 := Lib.hid (HQ2.out w3 h3)
          clear h3
          go_wp2_with fail
          go_roundg g'
          case measure => omega
          case rel => exact ⟨k + 1, by omega, by go_num, H3.out⟩
    · have hE : Pg.wE D num q = 1 := by rw [Pg.wE, if_neg (fun h => ho h.1)]
      have hD : Pg.wD D num epoch q = D := by rw [Pg.wD, hE, if_neg (by decide)]
      rw [hE, hD]
      obtain ⟨X, hX⟩ : ∃ X, Pg.put num epoch q = X := ⟨_, rfl⟩
      rw [hX] at C
      have HOn2 : Hid (∀ w', Touch No w w' → Calls Tryz.prog 68 #[.pointer (some ⟨g, 0, none⟩), .int .u32 (num : Nat)] w' fun e w'' => e = .returned (.bool false) ∧ w' = w'') := fun w' t => by have := HOn.out w' t; rwa [decide_eq_false ho] at this
      clear h hr hlt hq hnum hep hE hD hlong hi0 hi1 hi2 hi3 hX hXl ho HOn
      go_enter Tryz.func62, Tryz.ntmps62
      go_wp2_with fail
      refine C.out.mono ?_
      rintro e w1 ⟨ab, cb, rfl, ob, t1⟩
      have T1 := Lib.hid t1
      have HOn3 := Lib.hid (HOn2.out w1 t1)
      clear ob t1
      go_wp2_with fail
      refine HOn3.out.mono ?_
      rintro e w2 ⟨rfl, rfl⟩
      go_wp2
      go_ret
      exact ⟨rfl, Hsame.out _ T1.out⟩
/-- what Read leaves -/
def RefPgRead (w : World) (D : Dk.Disk) (num : Nat) (e : Ending) (w' : World) : Prop :=
  ∃ a n c, e = .returned (.tuple #[.int .u32 (Pg.rN D num : Nat), .slice a n c, .int .i64 (Pg.rE D num : Nat)]) ∧ (Pg.rB D num).length = n ∧ Rd w' a (nums .u8 (Pg.rB D num)) ∧ Touch No w w'
theorem refRd_none {w w' : World} {D : Dk.Disk} {num r : Nat} (hr : r ≠ 0) (h : Pg.rE D num = r) (t : Touch No w w') : RefPgRead w D num (.returned (.tuple #[.int .u32 0, .slice none 0 0, .int .i64 (r : Nat)])) w' := by
  refine ⟨none, 0, 0, ?_, ?_, ?_, t⟩
  · rw [h, Pg.rN, h, if_neg hr]; rfl
  · rw [Pg.rB, h, if_neg hr]; rfl
  · rw [Pg.rB, h, if_neg hr]; exact Rd.nil _ _
theorem lost_step {D : Dk.Disk} {num k : Nat} (hk : k < 4) (h : (Dk.at_ D.seen (4 * num + k)).bad = 1) : Pg.lost D num 4 = true := by
  have e : ∀ i, i < 4 → (Dk.at_ D.seen (4 * num + i)).bad = 1 → Pg.lost D num 4 = true := by
    intro i hi hb
    match i, hi with
    | 0, _ => simp [Pg.lost, show (Dk.at_ D.seen (4 * num)).bad = 1 from hb]
    | 1, _ => simp [Pg.lost, hb]
    | 2, _ => simp [Pg.lost, hb]
    | 3, _ => simp [Pg.lost, hb]
  exact e k hk h
set_option maxRecDepth 100000 in
set_option maxHeartbeats 4000000 in
theorem refPageRead_any {w : World} {g : Nat} {D : Dk.Disk} {vs vn vw : Value} (h : RdAt w g D vs vn vw) (num : Nat) (hnum : num < 4294967296) :
    Calls Tryz.prog 13 #[.pointer (some ⟨g, 0, none⟩), .int .u32 (num : Nat)] w (RefPgRead w D num) := by
  obtain ⟨I, hi0, hi1, hi2, hi3⟩ := u8_info
  have HI := Lib.hid (And.intro hi0 (And.intro hi1 (And.intro hi2 hi3)))
  have C := Lib.hid (refOn_at h num hnum)
  have HR := Lib.hid h
  have Hnum := Lib.hid hnum
  by_cases ho : onD D num = 0
  · have hon : Hid (4 * num + 4 ≤ D.seen.length) := by
      show _ ≤ _
      unfold onD at ho
      by_cases h : 4 * num + 4 ≤ D.seen.length
      · exact h
      · rw [if_neg h] at ho; cases ho
    have htopI : (num : Int) ≤ 4096 := by
      have := h.ok.top
      have := hon.out
      omega
    have HE : Hid (Pg.rE D num = if Pg.lost D num 4 then 12 else Pg.err num (Pg.rd D num 4)) := by show _ = _; rw [Pg.rE, if_pos ho]
    have Hok := Lib.hid h.ok
    rw [decide_eq_true ho] at C
    clear h hnum ho hi0 hi1 hi2 hi3
    go_enter Tryz.func13, Tryz.ntmps13
    go_wp2_with fail
    refine C.out.mono ?_
    rintro e w1 ⟨rfl, rfl⟩
    go_wp2_with fail
    go_loopg [7, 8] 4 (fun gh s7 s8 wr => ∃ (k : Nat) (a : Option Addr) (c : Nat), k + gh = 4 ∧ s8 = .int .i64 ((k : Nat) : Int) ∧ s7 = .slice a (64 * k) c ∧ Hid (Own wr w.heap.size 5 (.slice a (64 * k) c) (nums .u8 (Pg.rd D num k))) ∧ Hid (Pg.lost D num k = false) ∧ Hid ((Pg.rd D num k).length = 64 * k) ∧ Hid (Touch No w wr))
    case atStart => exact ⟨0, none, 0, by omega, rfl, rfl, Own.nil _ _ _, rfl, rfl, Touch.refl _ _⟩
    case round =>
      obtain ⟨k, a, c, hkg, rfl, rfl, O, L, Ln, T⟩ := hrel
      cases gk with
      | zero =>
        obtain rfl : k = 4 := by omega
        have hE : Pg.rE D num = Pg.err num (Pg.rd D num 4) := by rw [HE.out, L.out]; rfl
        have hc := O.out.room
        have h8 : Hid (∀ x ∈ Pg.rd D num 4, x < 256) := by
          have hb : ∀ i, i < 4 → ∀ x ∈ Dk.bytesOf (Dk.at_ D.seen (4 * num + i)), x < 256 := fun i hi x hx => by
            have hs := Hok.out.seen _ (Dk.at_mem (l := D.seen) (n := 4 * num + i) (by have := hon.out; omega))
            unfold Dk.bytesOf at hx
            split at hx
            · cases hx
            · exact hs.b.lt x hx
          intro x hx
          simp only [Pg.rd, List.nil_append, List.append_assoc, List.mem_append] at hx
          rcases hx with hx | hx | hx | hx
          · exact hb 0 (by decide) x hx
          · exact hb 1 (by decide) x hx
          · exact hb 2 (by decide) x hx
          · exact hb 3 (by decide) x hx
        have G := Lib.hid (refPageGet_any wr num a (64 * 4) c (Pg.rd D num 4) Ln.out (by omega) O.out.rd h8.out)
        have HE4 := Lib.hid hE
        clear hE hc h8
        go_wp2_with fail
        refine G.out.mono ?_
        rintro e w5 ⟨a', n', c', rfl, hn', ho', t'⟩
        have FIN : Hid (RefPgRead w D num (.returned (.tuple #[.int .u32 (Pg.epochOf num (Pg.rd D num 4) : Nat), .slice a' n' c', .int .i64 (Pg.err num (Pg.rd D num 4) : Nat)])) w5) := by
          have eN : Pg.rN D num = Pg.epochOf num (Pg.rd D num 4) := by
            rw [Pg.rN, HE4.out]
            by_cases h0 : Pg.err num (Pg.rd D num 4) = 0
            · rw [if_pos h0]
            · rw [if_neg h0, Pg.epochOf, if_neg h0]
          have eB : Pg.rB D num = Pg.bodyOf num (Pg.rd D num 4) := by
            rw [Pg.rB, HE4.out]
            by_cases h0 : Pg.err num (Pg.rd D num 4) = 0
            · rw [if_pos h0]
            · rw [if_neg h0, Pg.bodyOf, if_neg h0]
          exact ⟨a', n', c', by rw [eN, HE4.out], by rw [eB]; exact hn', by rw [eB]; exact ho'.rd, T.out.trans t'⟩
        clear hn' ho' t'
        go_wp2
        go_ret3
        exact FIN.out
      | succ g' =>
        have hk4 : (k : Int) < 4 := by omega
        have hkn : k < 4 := by omega
        have hin : 4 * num + k < D.seen.length := by have := hon.out; omega
        have hcond : 0 ≤ (num : Int) * 4 + (k : Int) ∧ (num : Int) * 4 + (k : Int) < D.seen.length := ⟨by omega, by omega⟩
        have hto : ((num : Int) * 4 + (k : Int)).toNat = 4 * num + k := by omega
        have hso := Hok.out.seen _ (Dk.at_mem hin)
        have C2 := Lib.hid (refRead3_any (HR.out.no T.out) ((num : Int) * 4 + (k : Int)))
        rw [Dk.readE, Dk.readB, if_pos hcond, if_pos hcond, hto] at C2
        obtain ⟨S, hS⟩ : ∃ S, Dk.at_ D.seen (4 * num + k) = S := ⟨_, rfl⟩
        rw [hS] at C2 hso
        by_cases hb : S.bad = 1
        · have HE12 : Hid (Pg.rE D num = 12) := by
            show _ = _
            rw [HE.out, lost_step hkn (by rw [hS]; exact hb)]; rfl
          rw [Dk.errOf, if_pos hb] at C2
          clear hb hS hso hto hcond hin hkn
          go_wp2_with fail
          refine C2.out.mono ?_
          rintro e w3 ⟨xa, xl, xc, rfl, hxl, hxr, t3⟩
          have T3 := Lib.hid (T.out.trans t3)
          clear hxl hxr t3
          go_wp2
          go_ret3
          exact refRd_none (by decide) HE12.out T3.out
        · rw [Dk.errOf, if_neg hb, Dk.bytesOf, if_neg hb] at C2
          have L2 : Hid (Pg.lost D num (k + 1) = false) := by
            show _ = _
            rw [Pg.lost, L.out, hS]; simpa using hb
          have E2 : Hid (Pg.rd D num (k + 1) = Pg.rd D num k ++ S.b) := by
            show _ = _
            rw [Pg.rd, hS, Dk.bytesOf, if_neg hb]
          have Hsl := Lib.hid hso.b.len
          have Ln2 : Hid ((Pg.rd D num (k + 1)).length = 64 * (k + 1)) := by show _ = _; rw [E2.out, List.length_append, Ln.out, Hsl.out]; omega
          clear hb hS hso hto hcond hin hkn
          go_wp2_with fail
          refine C2.out.mono ?_
          rintro e w3 ⟨xa, xl, xc, rfl, hxl, hxr, t3⟩
          obtain rfl : xl = 64 := by rw [← hxl, Hsl.out]
          have T3 := Lib.hid (T.out.trans t3)
          have O3 := Lib.hid (O.out.touch t3 (fun _ _ _ f => f))
          have Hxr := Lib.hid hxr
          clear hxl hxr t3 O
          go_wp2_with (at_builtin; refine wpList_append_rd rfl _ _ 49 rfl w.heap.size 5 I (.int .u8 0) 1 Tryz.underlying49 HI.out.1 HI.out.2.1 HI.out.2.2.1 HI.out.2.2.2 rfl _ _ O3.out rfl xa 64 xc (nums .u8 S.b) rfl (by rw [nums_length]; exact Hsl.out) Hxr.out (nums_one _ _) (by rw [nums_length, Ln.out]; unfold maxLen; omega) (by rw [nums_length, Ln.out]; omega) T3.out.size ?_; intro v4 w4 o4 t4; obtain ⟨a4, c4, rfl, _⟩ := o4.form' (n := 64 * (k + 1)) (by rw [List.length_append, nums_length, nums_length, Ln.out, Hsl.out]; omega))
          have O4 : Hid (Own w4 w.heap.size 5 (.slice a4 (64 * (k + 1)) c4) (nums .u8 (Pg.rd D num (k + 1)))) := by
            show Own _ _ _ _ _
            rw [E2.out, nums_append]; exact o4
          have T4 : Hid (Touch No w w4) := T3.out.then t4 (fun i hi e => by have := (O3.out.block e).1; omega)
          clear o4 t4 O3
          go_roundg g'
          case measure => omega
          case rel => exact ⟨k + 1, a4, c4, by omega, by go_num, rfl, O4.out, L2.out, Ln2.out, T4.out⟩
  · have h1 : onD D num = 1 := by
      unfold onD at ho ⊢
      split
      · rename_i h; rw [if_pos h] at ho; exact absurd rfl ho
      · rfl
    have HE : Hid (Pg.rE D num = 1) := by show _ = _; rw [Pg.rE, if_neg ho]
    rw [decide_eq_false ho] at C
    clear h hnum ho h1 hi0 hi1 hi2 hi3
    go_enter Tryz.func13, Tryz.ntmps13
    go_wp2_with fail
    refine C.out.mono ?_
    rintro e w1 ⟨rfl, rfl⟩
    go_wp2
    go_ret3
    exact refRd_none (by decide) HE.out (Touch.refl _ _)
end Go.Proofs.YtkiehoboeiengaaGreatDoor
