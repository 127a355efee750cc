/-
  Package drydocklaw17 by its own text: the walk of RootsSure.
-/
import Derived.Test.YtponmdacphapnaaRtS
import Derived.Test.YtponmdacphapnaaRootFm
namespace Go.Proofs.Ytponmdacphapnaa
open Go Go.RowKit
set_option linter.unusedSimpArgs false

set_option maxRecDepth 100000 in
set_option maxHeartbeats 8000000 in
theorem rootsSure_walk (w : World) (ad : Option Addr) (n cap : Nat) (xs : List Nat) (hn : xs.length = n) (hmax : (n : Int) ≤ 9223372036854775807) (hr : Rd w ad (nums .u8 xs)) (hlt : ∀ x ∈ xs, x < 256) (keep : Nat) (hk : keep < 18446744073709551616) (torn : Int) (ht1 : -128 ≤ torn) (ht2 : torn ≤ 127) :
    Calls Try.prog 5 #[.slice ad n cap, .int .u64 (keep : Nat), .int .i8 torn] w (LawPost w) := by
  have HN := Lib.hid hn
  have HR := Lib.hid hr
  have HL := Lib.hid hlt
  have HK := Lib.hid hk
  clear hn hr hlt hk
  go_enter Try.func5, Try.ntmps5
  by_cases h60 : 60 < n
  · have h60' : (60 : Int) < (n : Nat) := by omega
    clear h60
    go_wp2_with fail
    refine (lives_is _).mono ?_
    rintro e w1 ⟨rfl, t1⟩
    go_wp2
    go_ret
    exact ⟨rfl, t1⟩
  have h60' : ¬ (60 : Int) < (n : Nat) := by omega
  go_wp2_with fail
  refine (new_k _ 16 (by decide) (by decide)).mono ?_
  rintro e w1 ⟨d, rfl, h1⟩
  have s1 : St w w1 d (Dk.new 16) := St.made (Touch.refl _ _) h1
  clear h1
  go_wp2
  go_loopg [7, 9, 10] n (fun g s7 s9 s10 wr => ∃ (i ep b : Nat) (D : Dk.Disk), i + g = n ∧ s7 = .pointer (some ⟨b, 0, none⟩) ∧ s9 = .int .u32 ((ep : Nat) : Int) ∧ s10 = .int .i64 ((i : Nat) : Int) ∧ ep ≤ 256 * i ∧ Hid (Rt.Run D i ep) ∧ St w wr b D)
  case atStart => exact ⟨0, 0, d, _, by omega, rfl, rfl, rfl, by omega, Rt.run_new, s1⟩
  case round =>
    clear s1
    obtain ⟨i, ep, b, D, hig, rfl, rfl, rfl, hep, HRun, S⟩ := hrel
    cases gk with
    | zero =>
      obtain rfl : i = n := by omega
      go_wp2_with fail
      refine (lives_is _).mono ?_
      rintro e w2 ⟨rfl, t2⟩
      have T2 := Lib.hid (S.end.trans t2)
      clear S t2
      go_wp2
      go_ret
      exact ⟨rfl, T2.out⟩
    | succ g =>
      have hi : (i : Int) < n := by omega
      have hi60 : i < 60 := by omega
      obtain ⟨gb, ob, rfl, hcell⟩ := (HR.out.no S.end).num (i := i) (by rw [HN.out]; omega)
      obtain ⟨x, hx⟩ : ∃ x, xs.getD i 0 = x := ⟨_, rfl⟩
      rw [hx] at hcell
      have hx256 : x < 256 := by
        rw [← hx, List.getD_eq_getElem?_getD, List.getElem?_eq_getElem (by rw [HN.out]; omega)]
        exact HL.out _ (List.getElem_mem _)
      clear hx
      obtain ⟨eq, heq⟩ : ∃ eq, ep + 1 + x = eq := ⟨_, rfl⟩
      have heq1 : (ep : Int) + 1 + (x : Int) = (eq : Nat) := by omega
      have hq : eq ≤ 256 * (i + 1) := by omega
      have Hlt : Hid (ep < eq) := by show _ < _; omega
      have hok : Rt.Root.Ok ⟨eq, i, x⟩ := ⟨by dsimp only; omega, by dsimp only; omega, by dsimp only; omega⟩
      have Hok := Lib.hid hok
      have HF1 := Lib.hid (S.fam.lay 24 #[.int .u32 (eq : Nat), .int .u32 (i : Nat), .int .u32 (x : Nat)])
      clear heq hok S
      go_wp2_with fail
      refine (HF1.out.rootWrite 0 rfl ⟨eq, i, x⟩ Hok.out).mono ?_
      have hst := Lib.hid (Rt.run_step HRun.out Hok.out (show ep < eq from Hlt.out))
      rw [hst.out.1]
      clear HF1 hcell
      rintro e w2 ⟨rfl, F2⟩
      obtain ⟨D1, hD1⟩ : ∃ D1, D1 = Rt.wD D ⟨eq, i, x⟩ := ⟨_, rfl⟩
      obtain ⟨R, hR⟩ : ∃ R, R = wr.heap.size := ⟨_, rfl⟩
      have F2 : Fm w w2 [(b, Rt.wD D ⟨eq, i, x⟩)] [(wr.heap.size, 24, [.int .u32 (eq : Nat), .int .u32 (i : Nat), .int .u32 (x : Nat)])] := F2
      have hrun := hst.out.2.1
      have hhold := hst.out.2.2
      rw [← hD1] at F2 hrun hhold
      rw [← hR] at F2 ⊢
      have Run1 := Lib.hid hrun
      have Hold := Lib.hid hhold
      have hw1 : Hid (D1.waits.length ≤ 1000000) := by show _ ≤ _; rw [Run1.out.waits]; exact Nat.zero_le _
      obtain ⟨e2, he2⟩ : ∃ e2, e2 = eq + 1 := ⟨_, rfl⟩
      obtain ⟨m, hm⟩ : ∃ m, m = (i + 1) % 2 := ⟨_, rfl⟩
      have heq2 : (eq : Int) + 1 = (e2 : Nat) := by omega
      have hm2 : ((i : Int) + 1) % 2 = (m : Nat) := by omega
      have hok2 := Lib.hid (Rt.ep_ok (i := e2) (by omega))
      have hm16 : Hid (m < D1.seen.length) := by show _ < _; rw [Run1.out.len]; omega
      have hne : ((e2 : Int) == (eq : Nat)) = false := by simp; omega
      have htorn := Lib.hid (Rt.run_torn Run1.out Hok.out Hold.out rfl (show eq + 1 < 4294967296 by omega) keep torn)
      have hread := Lib.hid (Rt.run_read Run1.out Hok.out Hold.out rfl)
      have He2 := Lib.hid he2
      have Hm := Lib.hid hm
      clear hrun hhold hD1 hR hst he2 hm
      go_wp2_with fail
      refine ((F2.st 0 rfl).waits 0 (by rw [Run1.out.waits]; rfl)).mono ?_
      rintro e w' ⟨rfl, rfl⟩
      go_wp2_with fail
      refine (F2.fail 0 rfl 0 (-1) (by decide) hw1.out).mono ?_
      rw [Rt.run_fail Run1.out]
      rintro e w3 ⟨c, rfl, F3⟩
      have F3 : Fm w w3 [(b, D1), (c, D1)] [(R, 24, [.int .u32 (eq : Nat), .int .u32 (i : Nat), .int .u32 (x : Nat)])] := F3
      clear F2
      go_wp2_with fail
      refine (rootPut_any w3 ⟨e2, 0, 0⟩ hok2.out).mono ?_
      rintro e w4 ⟨a4, c4, rfl, o4, t4⟩
      have O4 := Lib.hid o4.rd
      have F4 := F3.no t4
      clear o4 t4 F3
      go_wp2_with fail
      refine (F4.put 1 rfl m a4 64 c4 (Rt.put ⟨e2, 0, 0⟩) hm16.out (Rt.put_length _) (Nat.le_refl _) (Rt.put_lt _) O4.out hw1.out).mono ?_
      clear F4 O4
      rintro e w5 ⟨rfl, F5⟩
      have F5 : Fm w w5 [(b, D1), (c, Dk.write D1 m (Rt.put ⟨e2, 0, 0⟩))] [(R, 24, [.int .u32 (eq : Nat), .int .u32 (i : Nat), .int .u32 (x : Nat)])] := F5
      go_wp2_with fail
      refine (F5.fail 1 rfl keep torn HK.out (by show (D1.waits ++ [_]).length ≤ _; rw [Run1.out.waits]; exact (by decide : 1 ≤ 1000000))).mono ?_
      clear F5
      rintro e w6 ⟨c2, rfl, F6⟩
      obtain ⟨C1, hC1⟩ : ∃ C1, C1 = Dk.write D1 m (Rt.put ⟨e2, 0, 0⟩) := ⟨_, rfl⟩
      obtain ⟨C2, hC2⟩ : ∃ C2, C2 = Dk.fail C1 keep torn := ⟨_, rfl⟩
      have F6 : Fm w w6 [(b, D1), (c, C1), (c2, C2)] [(R, 24, [.int .u32 (eq : Nat), .int .u32 (i : Nat), .int .u32 (x : Nat)])] := by
        have : Fm w w6 [(b, D1), (c, Dk.write D1 m (Rt.put ⟨e2, 0, 0⟩)), (c2, Dk.fail (Dk.write D1 m (Rt.put ⟨e2, 0, 0⟩)) keep torn)] [(R, 24, [.int .u32 (eq : Nat), .int .u32 (i : Nat), .int .u32 (x : Nat)])] := F6
        rw [← hC1, ← hC2] at this; exact this
      have hto : Rt.findE C2 = 0 ∧ (Rt.findR C2 = ⟨eq, i, x⟩ ∨ Rt.findR C2 = ⟨e2, 0, 0⟩) := by
        rw [hC2, hC1, Hm.out, He2.out]; exact htorn.out
      have Hto := Lib.hid hto
      clear hC1 hC2 hto htorn
      go_wp2_with fail
      refine ((F6.st 2 rfl).rootRead).mono ?_
      rw [Hto.out.1]
      rcases Hto.out.2 with hX | hX
      all_goals
        rw [hX]
        clear hX
        rintro e w7 ⟨rfl, t7⟩
        have F7 := F6.no t7
        clear F6 t7 Hto
        obtain ⟨r0, r1, r2, hl, _⟩ := F7.three 0 rfl
        have hneR : ¬ R = w7.heap.size := by omega
        first
          | (have HF8 := Lib.hid (F7.lay 24 #[.int .u32 (eq : Nat), .int .u32 (i : Nat), .int .u32 (x : Nat)]); clear F7; go_wp2_with fail; refine (HF8.out.fail 0 rfl keep torn HK.out hw1.out).mono ?_)
          | (have HF8 := Lib.hid (F7.lay 24 #[.int .u32 (e2 : Nat), .int .u32 0, .int .u32 0]); clear F7; go_wp2_with fail; refine (HF8.out.fail 0 rfl keep torn HK.out hw1.out).mono ?_)
        rw [Rt.run_fail Run1.out]
        clear r0 r1 r2 hl hneR HF8
        rintro e w8 ⟨b2, rfl, F8⟩
        have F8 := Fm.drop F8
        have F8 : Fm w w8 [(b, D1), (c, C1), (c2, C2), (b2, D1)] [(R, 24, [.int .u32 (eq : Nat), .int .u32 (i : Nat), .int .u32 (x : Nat)])] := F8
        go_wp2_with fail
        refine ((F8.st 3 rfl).rootRead).mono ?_
        rw [hread.out.1, hread.out.2]
        rintro e w9 ⟨rfl, t9⟩
        have F9 := F8.no t9
        clear F8 t9
        obtain ⟨r0, r1, r2, hl, _⟩ := F9.three 0 rfl
        have hneR : ¬ R = w9.heap.size := by omega
        have S9 := Lib.hid ((F9.st 3 rfl).alloc (.cells #[.int .u32 (eq : Nat), .int .u32 (i : Nat), .int .u32 (x : Nat)] 24))
        clear F9
        go_wp2
        go_roundg g
        case measure => omega
        case rel => exact ⟨i + 1, eq, b2, D1, by omega, rfl, by go_num, by go_num, by omega, Run1.out, S9.out⟩
end Go.Proofs.Ytponmdacphapnaa
