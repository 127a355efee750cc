/-
  Package drydocklaw03 by its own text: the walk of DisksRot.
-/
import Derived.Test.YtechmboimpbjpaaDFam
import Derived.Test.YtechmboimpbjpaaDRead
import Derived.Laws.BitsAllLaws
namespace Go.Proofs.Ytechmboimpbjpaa
open Go Go.RowKit

theorem St.rot_no {w0 wi : World} {d : Nat} {D : Dk.Disk} (h : St w0 wi d D) (n p x : Int) (hc : ¬ ((0 ≤ n ∧ n < D.seen.length) ∧ (0 ≤ p ∧ p < 64))) :
    Calls Try.prog 22 #[.pointer (some ⟨d, 0, none⟩), .int .i64 n, .int .i64 p, .int .u8 x] wi fun e w' => e = .returned (.int .i64 1) ∧ wi = w' := by
  obtain ⟨O, h, t⟩ := h
  by_cases h1 : 0 ≤ n ∧ n < D.seen.length
  · exact rot_bad wi d D O n p x h.on h1 (by omega)
  · exact rot_out wi d D O n p x h.on h1

namespace Dk
theorem rat_upd {l : List Sec} {n : Nat} {f : Sec → Sec} (h : n < l.length) : at_ (upd l n f) n = f (at_ l n) := by
  simp [at_, upd, List.getD_eq_getElem?_getD, h]
theorem rat_upd_ne {l : List Sec} {n k : Nat} {f : Sec → Sec} (h : n ≠ k) : at_ (upd l n f) k = at_ l k := by
  simp [at_, upd, List.getD_eq_getElem?_getD, List.getElem?_set_ne h]
theorem rupd_out {l : List Sec} {n : Nat} {f : Sec → Sec} (h : ¬ n < l.length) : upd l n f = l := by
  simp [upd, List.set_eq_of_length_le (Nat.le_of_not_lt h)]
theorem upd_upd {l : List Sec} {n : Nat} {f g : Sec → Sec} (h : n < l.length) : upd (upd l n f) n g = l.set n (g (f (at_ l n))) := by
  rw [upd, rat_upd h, upd, List.set_set]
theorem upd_comm {l : List Sec} {n k : Nat} {f g : Sec → Sec} (h : n ≠ k) : upd (upd l k g) n f = upd (upd l n f) k g := by
  have a1 : at_ (upd l k g) n = at_ l n := rat_upd_ne (fun e => h e.symm)
  have a2 : at_ (upd l n f) k = at_ l k := rat_upd_ne h
  show (upd l k g).set n (f (at_ (upd l k g) n)) = (upd l n f).set k (g (at_ (upd l n f) k))
  rw [a1, a2]
  exact List.set_comm _ _ (fun e => h e.symm)
theorem turnB_get {b : List Nat} {p x i : Nat} : (turnB b p x)[i]? = if i = p ∧ p < b.length then some (b.getD p 0 ^^^ x) else b[i]? := by
  rw [turnB, List.getElem?_set]
  by_cases e : p = i
  · subst e
    by_cases h : p < b.length
    · simp [h]
    · simp [h, List.getElem?_eq_none (Nat.le_of_not_lt h)]
  · have e' : ¬ i = p := fun h => e h.symm
    simp [e, e']
theorem turn_torn {y s : List Nat} {p x : Nat} (hy : y.length = 64) (hs : s.length = 64) : (turnB y p x).take 32 ++ (turnB s p x).drop 32 = turnB (y.take 32 ++ s.drop 32) p x := by
  refine List.ext_getElem? (fun i => ?_)
  have l1 : (turnB y p x).length = 64 := by simp [turnB, hy]
  have lt : (y.take 32).length = 32 := by rw [List.length_take, hy]; rfl
  have lt' : ((turnB y p x).take 32).length = 32 := by rw [List.length_take, l1]; rfl
  have lw : (y.take 32 ++ s.drop 32).length = 64 := by rw [List.length_append, lt, List.length_drop, hs]
  have gp : ∀ j, (y.take 32 ++ s.drop 32)[j]? = if j < 32 then y[j]? else s[j]? := fun j => by
    by_cases h : j < 32
    · rw [if_pos h, List.getElem?_append_left (by omega), List.getElem?_take_of_lt h]
    · rw [if_neg h, List.getElem?_append_right (by omega), lt, List.getElem?_drop]
      congr 1; omega
  rw [turnB_get, lw]
  by_cases h : i < 32
  · rw [List.getElem?_append_left (by omega), List.getElem?_take_of_lt h, turnB_get, hy, gp, if_pos h]
    by_cases e : i = p
    · subst e
      rw [List.getD_eq_getElem?_getD, List.getD_eq_getElem?_getD, gp, if_pos h]
    · simp [e]
  · rw [List.getElem?_append_right (by omega), lt', List.getElem?_drop, turnB_get, hs]
    rw [show 32 + (i - 32) = i by omega, gp, if_neg h]
    by_cases e : i = p
    · subst e
      rw [List.getD_eq_getElem?_getD, List.getD_eq_getElem?_getD, gp, if_neg h]
    · simp [e]
theorem turnB_twice {b : List Nat} {p x : Nat} : turnB (turnB b p x) p x = b := by
  refine List.ext_getElem? (fun i => ?_)
  rw [turnB_get, turnB_get]
  have l1 : (turnB b p x).length = b.length := by simp [turnB]
  rw [l1]
  by_cases e : i = p ∧ p < b.length
  · obtain ⟨rfl, h⟩ := e
    rw [if_pos ⟨rfl, h⟩, List.getD_eq_getElem?_getD, turnB_get, if_pos ⟨rfl, h⟩, List.getD_eq_getElem?_getD, List.getElem?_eq_getElem h]
    simp [Nat.xor_assoc]
  · rw [if_neg e, if_neg e]
theorem turnS_twice {s : Sec} {p x : Nat} : turnS p x (turnS p x s) = s := by
  simp [turnS, turnB_twice]
theorem upd_turn_twice {l : List Sec} {k p x : Nat} : upd (upd l k (turnS p x)) k (turnS p x) = l := by
  by_cases h : k < l.length
  · rw [upd_upd h, turnS_twice]
    have := at_get h
    refine List.ext_getElem? (fun i => ?_)
    rw [List.getElem?_set]
    by_cases e : k = i
    · subst e; rw [this]; simp [h]
    · simp [e]
  · rw [rupd_out (by rw [upd_length]; exact h), rupd_out h]
theorem step_turn {keep : Nat} {torn : Int} {l : List Sec} {i k p x : Nat} {y : Wr} (hl : ∀ s ∈ l, s.Ok) (hy : y.b.length = 64) :
    failStep keep torn (upd l k (turnS p x)) i (turnW k p x y) = upd (failStep keep torn l i y) k (turnS p x) := by
  have key : ∀ (f f' : Sec → Sec), (y.n = k → k < l.length → f' (turnS p x (at_ l k)) = turnS p x (f (at_ l k))) → (y.n ≠ k → f' = f) → upd (upd l k (turnS p x)) y.n f' = upd (upd l y.n f) k (turnS p x) := fun f f' h1 h2 => by
    by_cases e : y.n = k
    · rw [e]
      by_cases h : k < l.length
      · rw [upd_upd h, upd_upd h, h1 e h]
      · rw [rupd_out (l := upd l k _) (by rw [upd_length]; exact h), rupd_out h, rupd_out h, rupd_out h]
    · rw [h2 e, upd_comm e]
  have hn : (turnW k p x y).n = y.n := by unfold turnW; split <;> rfl
  unfold failStep
  rw [hn]
  split
  · refine key (tornS y) (tornS (turnW k p x y)) (fun e h => ?_) (fun e => by rw [turnW, if_neg e])
    have hs := (hl _ (at_mem h)).b.len
    rw [turnW, if_pos e]
    simp only [tornS, turnS]
    rw [turn_torn hy hs]
  · split
    · refine key (keptS y) (keptS (turnW k p x y)) (fun e h => ?_) (fun e => by rw [turnW, if_neg e])
      rw [turnW, if_pos e]
      simp only [keptS, turnS]
    · rfl
theorem failed_turn {keep : Nat} {torn : Int} {k p x : Nat} : ∀ (ws : List Wr) (l : List Sec) (i : Nat), (∀ s ∈ l, s.Ok) → (∀ y ∈ ws, y.Ok l.length) →
    failed keep torn (upd l k (turnS p x)) i (ws.map (turnW k p x)) = upd (failed keep torn l i ws) k (turnS p x)
  | [], l, i, _, _ => rfl
  | y :: r, l, i, hl, hw => by
    have hy := hw y (by simp)
    have h1 := failStep_ok (keep := keep) (torn := torn) (i := i) hl hy
    rw [List.map_cons, failed, failed, step_turn hl hy.b.len]
    exact failed_turn r _ (i + 1) h1.1 (fun z hz => by rw [h1.2]; exact hw z (by simp [hz]))
theorem rot_fail {D : Disk} (ok : Ok D) (keep : Nat) (torn : Int) (k p x : Nat) : (fail (rot D k p x) keep torn).seen = upd (fail D keep torn).seen k (turnS p x) :=
  failed_turn D.waits D.sure 0 ok.sure (fun y hy => by rw [ok.len]; exact ok.waits y hy)
theorem rot_fail_at {D : Disk} (ok : Ok D) (keep : Nat) (torn : Int) {k p x : Nat} (h : k < D.seen.length) : at_ (fail (rot D k p x) keep torn).seen k = turnS p x (at_ (fail D keep torn).seen k) := by
  have h1 := failed_ok (keep := keep) (torn := torn) D.waits D.sure 0 ok.sure (fun y hy => by rw [ok.len]; exact ok.waits y hy)
  rw [rot_fail ok, rat_upd]
  show k < (failed keep torn D.sure 0 D.waits).length
  rw [h1.2, ok.len]; exact h
theorem rfail_len {D : Disk} (ok : Ok D) (keep : Nat) (torn : Int) : (fail D keep torn).seen.length = D.seen.length := by
  have h1 := failed_ok (keep := keep) (torn := torn) D.waits D.sure 0 ok.sure (fun y hy => by rw [ok.len]; exact ok.waits y hy)
  exact h1.2.trans ok.len
theorem rot_seen_twice (D : Disk) (k p x : Nat) : (rot (rot D k p x) k p x).seen = D.seen := upd_turn_twice
theorem rot_sure_twice (D : Disk) (k p x : Nat) : (rot (rot D k p x) k p x).sure = D.sure := upd_turn_twice
theorem rfailed_none (torn : Int) (ht : torn < 0) : ∀ (ws : List Wr) (l : List Sec) (i : Nat), failed 0 torn l i ws = l
  | [], _, _ => rfl
  | y :: r, l, i => by
    have e : failStep 0 torn l i y = l := by
      rw [failStep, if_neg (by omega), if_neg (by simp)]
    rw [failed, e]; exact rfailed_none torn ht r l (i + 1)
theorem bytes_turn (s : Sec) (p x : Nat) : (bytesOf (turnS p x s)).length = (bytesOf s).length ∧ errOf (turnS p x s) = errOf s ∧
    ∀ i, i < (bytesOf s).length → (bytesOf (turnS p x s)).getD i 0 = if i = p then (bytesOf s).getD i 0 ^^^ x else (bytesOf s).getD i 0 := by
  have e1 : bytesOf (turnS p x s) = if s.bad = 1 then [] else turnB s.b p x := rfl
  have e2 : errOf (turnS p x s) = errOf s := rfl
  rw [e1, e2]
  unfold bytesOf
  by_cases h : s.bad = 1
  · simp [h]
  · rw [if_neg h, if_neg h]
    refine ⟨by simp [turnB], rfl, fun i hi => ?_⟩
    rw [List.getD_eq_getElem?_getD, turnB_get]
    by_cases e : i = p
    · subst e; simp [hi]
    · simp [e]
end Dk

set_option maxRecDepth 100000 in
set_option maxHeartbeats 8000000 in
theorem disksRot_walk (w : World) (ad : Option Addr) (n cap : Nat) (acts : List Deed) (hn : acts.length = n) (hmax : (n : Int) ≤ 9223372036854775807) (h : IsDeeds w ad acts)
    (zn za by' : Nat) (h0 : zn < 256) (h1 : za < 256) (h2 : by' < 256) :
    Calls Try.prog 10 #[.slice ad n cap, .agg #[.int .u8 (zn : Nat), .int .u8 (za : Nat), .int .u8 (by' : Nat)]] w (LawPost w) := by
  have H := Lib.hid h; clear h
  have HN := Lib.hid hn; clear hn
  go_enter Try.func10, Try.ntmps10
  go_wp2_with fail
  obtain ⟨W, hW⟩ : ∃ W, W = w.alloc (.cells #[.int .u8 (zn : Nat), .int .u8 (za : Nat), .int .u8 (by' : Nat)] 58) := ⟨_, rfl⟩
  have tW : Touch No w W := by rw [hW]; exact (Touch.refl No w).alloc _
  have hc0 : W.cell? ⟨w.heap.size, 0, none⟩ = some (.int .u8 (zn : Nat)) := by rw [hW, cell_new]; rfl
  have hc1 : W.cell? ⟨w.heap.size, 1, none⟩ = some (.int .u8 (za : Nat)) := by rw [hW, cell_new]; rfl
  have hc2 : W.cell? ⟨w.heap.size, 2, none⟩ = some (.int .u8 (by' : Nat)) := by rw [hW, cell_new]; rfl
  rw [← hW]
  obtain ⟨B, hB⟩ : ∃ B, B = w.heap.size := ⟨_, rfl⟩
  rw [← hB] at hc0 hc1 hc2 ⊢
  have HB := Lib.hid hB
  clear hW hB
  refine (alive_is W).mono ?_
  rintro e w1 ⟨rfl, t1⟩
  have T1 := tW.trans t1
  go_wp2_with fail
  refine (great_any w1 ad n cap acts HN.out hmax (H.out.touch T1)).mono ?_
  rintro e w' ⟨rfl, rfl⟩
  cases hg : great acts with
  | true =>
    clear hg
    go_wp2_with fail
    refine (alive_is w1).mono ?_
    rintro e w2 ⟨rfl, t2⟩
    go_wp2
    go_ret
    exact ⟨rfl, T1.trans t2⟩
  | false =>
  have h150 : n ≤ 150 := by rw [← HN.out]; exact great_not hg
  clear hg
  have HT := Lib.hid tW
  have F1 : Fam W w1 [] := Fam.nil W w1 t1
  clear tW t1
  go_wp2_with fail
  refine (F1.does ad n cap acts HN.out h150 (H.out.touch T1)).mono ?_
  obtain ⟨D, hD⟩ : ∃ D, D = Dk.does acts := ⟨_, rfl⟩
  have hDs : D.seen.length = 8 := by rw [hD]; exact Dk.does_seen acts
  obtain ⟨q, hq⟩ : ∃ q, D.waits.length = q := ⟨_, rfl⟩
  have hq150 : q ≤ 150 := by rw [← hq, hD]; have := Dk.does_waits acts; have := HN.out; omega
  have HD := Lib.hid hD
  have HDs := Lib.hid hDs
  have Hq := Lib.hid hq
  have hDw6 : Hid (D.waits.length ≤ 1000000) := by show _ ≤ _; rw [Hq.out]; omega
  clear hD hDs hq T1
  rw [← HD.out]
  rintro e w2 ⟨d, rfl, F2⟩
  have F2 : Fam W w2 [(d, D)] := F2
  have Hok : Hid (Dk.Ok D) := (F2.st 0 rfl).ok
  clear F1
  go_wp2_with fail
  refine (F2.does ad n cap acts HN.out h150 (H.out.touch (HT.out.trans F2.end))).mono ?_
  rw [← HD.out]
  rintro e w3 ⟨x, rfl, F3⟩
  have F3 : Fam W w3 [(d, D), (x, D)] := F3
  clear F2
  have hc0' := F3.end.cell (id : No B → False) hc0
  have hc1' := F3.end.cell (id : No B → False) hc1
  have hc2' := F3.end.cell (id : No B → False) hc2
  obtain ⟨k, hk⟩ : ∃ k, zn % 8 = k := ⟨_, rfl⟩
  obtain ⟨p, hp⟩ : ∃ p, za % 64 = p := ⟨_, rfl⟩
  have hk1 : (zn : Int) % 8 = (k : Nat) := by omega
  have hp1 : (za : Int) % 64 = (p : Nat) := by omega
  have hk8 : k < 8 := by omega
  have hp64 : p < 64 := by omega
  clear hk hp
  have hkD : Hid (k < D.seen.length) := by show _ < _; rw [HDs.out]; exact hk8
  have Hby : Hid (by' < 256) := h2
  go_wp2_with fail
  refine (F3.rot 1 rfl k p by' hkD.out hp64 Hby.out hDw6.out).mono ?_
  obtain ⟨E, hE⟩ : ∃ E, E = Dk.rot D k p by' := ⟨_, rfl⟩
  rw [← hE]
  have HE := Lib.hid hE
  have hEs : Hid (E.seen.length = 8) := by show _ = _; rw [HE.out]; simp only [Dk.rot, Dk.upd_length]; exact HDs.out
  have hEw : Hid (E.waits.length = q) := by show _ = _; rw [HE.out]; simp only [Dk.rot, List.length_map]; exact Hq.out
  have hEw6 : Hid (E.waits.length ≤ 1000000) := by show _ ≤ _; rw [hEw.out]; omega
  have hkE : Hid (k < E.seen.length) := by show _ < _; rw [hEs.out]; exact hk8
  have hEok : Hid (Dk.Ok E) := by show Dk.Ok _; rw [HE.out]; exact Dk.rot_ok Hok.out hkD.out Hby.out
  clear hE
  rintro e w4 ⟨rfl, F4⟩
  have F4 : Fam W w4 [(d, D), (x, E)] := F4
  clear F3 hc0' hc1' hc2'
  go_wp2_with fail
  refine ((F4.st 1 rfl).waits q hEw.out).mono ?_
  rintro e w' ⟨rfl, rfl⟩
  go_wp2_with fail
  refine ((F4.st 0 rfl).waits q Hq.out).mono ?_
  rintro e w' ⟨rfl, rfl⟩
  go_wp2_with fail
  try simp only [hk1]
  try simp only [hp1]
  clear hk1 hp1 hc0 hc1 hc2
  go_loopg [10] 4 (fun g s10 wr => ∃ (j : Nat), j + g = 4 ∧ s10 = .int .u64 ((j : Nat) : Int) ∧ Fam W wr [(d, D), (x, E)])
  case atStart => exact ⟨0, by omega, rfl, F4⟩
  case round =>
    clear F4
    obtain ⟨j, hjg, rfl, F⟩ := hrel
    cases gk with
    | zero =>
      obtain rfl : j = 4 := by omega
      have h00 : Hid (E.seen.length = 8) := hEs
      have hEE : Hid ((Dk.rot E k p by').seen = D.seen ∧ (Dk.rot E k p by').sure = D.sure ∧ (Dk.rot E k p by').waits.length ≤ 1000000) := by
        show _ ∧ _
        refine ⟨by rw [HE.out]; exact Dk.rot_seen_twice _ _ _ _, by rw [HE.out]; exact Dk.rot_sure_twice _ _ _ _, ?_⟩
        simp only [Dk.rot, List.length_map]; exact hEw6.out
      go_wp2_with fail
      refine (F.rot 1 rfl k p by' hkE.out hp64 Hby.out hEw6.out).mono ?_
      obtain ⟨G, hG⟩ : ∃ G, G = Dk.rot E k p by' := ⟨_, rfl⟩
      rw [← hG] at hEE ⊢
      have HG := Lib.hid hG
      have hGs : Hid (G.seen.length = 8) := by show _ = _; rw [hEE.out.1]; exact HDs.out
      clear hG
      rintro e w5 ⟨rfl, F5⟩
      have F5 : Fam W w5 [(d, D), (x, G)] := F5
      clear F
      go_wp2_with fail
      refine ((F5.st 1 rfl).alike (F5.st 0 rfl) (by rw [hEE.out.1]) (fun _ _ => by rw [hEE.out.1])).mono ?_
      rintro e w6 ⟨rfl, t6⟩
      have F6 := F5.no t6
      clear F5 t6
      go_wp2_with fail
      refine ((F6.st 1 rfl).left2 0 (-1) (by decide) hEE.out.2.2).mono ?_
      rintro e w7 ⟨y, rfl, Y7, t7⟩
      have F7 := F6.no t7
      clear F6 t7
      go_wp2_with fail
      refine ((F7.st 0 rfl).left2 0 (-1) (by decide) hDw6.out).mono ?_
      rintro e w8 ⟨z, rfl, Z8, t8⟩
      have F8 := F7.no t8
      have Y8 := Y7.no t8
      have hyz : Hid ((Dk.fail G 0 (-1)).seen = (Dk.fail D 0 (-1)).seen) := by
        show Dk.failed 0 (-1) G.sure 0 G.waits = Dk.failed 0 (-1) D.sure 0 D.waits
        rw [Dk.rfailed_none (-1) (by decide), Dk.rfailed_none (-1) (by decide), hEE.out.2.1]
      clear F7 t8 Y7
      go_wp2_with fail
      refine (Y8.alike Z8 (by rw [hyz.out]) (fun _ _ => by rw [hyz.out])).mono ?_
      rintro e w9 ⟨rfl, t9⟩
      have F9 := F8.no t9
      clear F8 t9 Y8 Z8
      go_wp2_with fail
      refine ((F9.st 1 rfl).rot_no 8 0 1 (by rw [hGs.out]; omega)).mono ?_
      rintro e w' ⟨rfl, rfl⟩
      go_wp2_with fail
      refine ((F9.st 1 rfl).rot_no 0 64 1 (by omega)).mono ?_
      rintro e w' ⟨rfl, rfl⟩
      go_wp2_with fail
      refine ((F9.st 1 rfl).rot_no 0 (-1) 1 (by omega)).mono ?_
      rintro e w' ⟨rfl, rfl⟩
      go_wp2
      go_ret
      exact ⟨rfl, HT.out.trans F9.end⟩
    | succ g =>
      have hlt : (j : Int) < 4 := by omega
      have hmul : IntKind.u64.wrap ((j : Int) * 21845) = ((j * 21845 : Nat) : Int) := by rw [IntKind.wrap_u64]; omega
      have hmul2 : Hid ((j : Int) * 21845 = ((j * 21845 : Nat) : Int)) := by show _ = _; omega
      have hkp : Hid (j * 21845 < 18446744073709551616) := by show _ < _; omega
      have hfd : Hid (k < (Dk.fail D (j * 21845) ((j : Int) - 1)).seen.length) := by show _ < _; rw [Dk.rfail_len Hok.out]; exact hkD.out
      have hfe : Hid (k < (Dk.fail E (j * 21845) ((j : Int) - 1)).seen.length) := by show _ < _; rw [Dk.rfail_len hEok.out]; exact hkE.out
      obtain ⟨s, hs⟩ : ∃ s, s = Dk.at_ (Dk.fail D (j * 21845) ((j : Int) - 1)).seen k := ⟨_, rfl⟩
      have hat : Hid (Dk.at_ (Dk.fail E (j * 21845) ((j : Int) - 1)).seen k = Dk.turnS p by' s) := by
        show _ = _
        rw [HE.out, Dk.rot_fail_at Hok.out _ _ hkD.out, ← hs]
      have hsok : Hid (s.Ok) := by
        show Dk.Sec.Ok _
        rw [hs]; exact (Dk.fail_ok Hok.out _ _).seen _ (Dk.at_mem hfd.out)
      have Hs := Lib.hid hs
      have hbt := Lib.hid (Dk.bytes_turn s p by')
      clear hs
      go_wp2_with fail
      try rw [hmul2.out]
      refine ((F.st 0 rfl).left2 (j * 21845) ((j : Int) - 1) hkp.out hDw6.out).mono ?_
      rintro e w5 ⟨y, rfl, Y5, t5⟩
      have F5 := F.no t5
      clear F t5
      go_wp2_with fail
      refine (Y5.read_any k hfd.out).mono ?_
      rw [← Hs.out]
      rintro e w6 ⟨a6, l6, r6, rfl, R6, L6, E6, t6⟩
      have F6 := F5.no t6
      have HR6 := Lib.hid R6
      have HL6 := Lib.hid L6
      have HE6 := Lib.hid E6
      clear F5 t6 R6 L6 E6 Y5
      go_wp2_with fail
      try rw [hmul2.out]
      refine ((F6.st 1 rfl).left2 (j * 21845) ((j : Int) - 1) hkp.out hEw6.out).mono ?_
      rintro e w7 ⟨z, rfl, Z7, t7⟩
      have F7 := F6.no t7
      have HR7 := Lib.hid (HR6.out.no t7)
      clear F6 t7 HR6
      go_wp2_with fail
      refine (Z7.read_any k hfe.out).mono ?_
      rw [hat.out]
      rintro e w8 ⟨a8, l8, r8, rfl, R8, L8, E8, t8⟩
      obtain rfl : l8 = l6 := by rw [← L8, hbt.out.1, HL6.out]
      obtain rfl : r8 = r6 := by rw [E8, hbt.out.2.1, ← HE6.out]
      have F8 := F7.no t8
      have HR6 := Lib.hid (HR7.out.no t8)
      have HR8 := Lib.hid R8
      have HL8 := Lib.hid L8
      have hl64 : l8 ≤ 64 := by rw [← HL6.out]; exact Dk.bytes_le hsok.out
      clear F7 t8 R8 L8 E8 HR7 HE6 Z7
      have hne : ((r8 : Int) != (r8 : Nat)) = false := by simp
      go_wp2
      try simp only [hmul]
      clear hmul
      go_loopg [15] l8 (fun g' s15 wr' => ∃ (i : Nat), i + g' = l8 ∧ s15 = .int .i64 ((i : Nat) : Int) ∧ Fam W wr' [(d, D), (x, E)] ∧ Hid (Touch No w8 wr'))
      case atStart => exact ⟨0, by omega, rfl, F8, Touch.refl _ _⟩
      case round =>
        clear F8
        obtain ⟨i, hig, rfl, F, TT⟩ := hrel
        cases gk with
        | zero =>
          obtain rfl : i = l8 := by omega
          have hj1 : IntKind.u64.wrap ((j : Int) + 1) = ((j + 1 : Nat) : Int) := by rw [IntKind.wrap_u64]; omega
          go_wp2
          go_roundg g
          case measure => omega
          case rel => exact ⟨j + 1, by omega, by first | rfl | go_num, F⟩
        | succ g' =>
          have hlt' : (i : Int) < (l8 : Nat) := by omega
          have hiA : i < (Dk.bytesOf s).length := by rw [HL6.out]; omega
          have hiB : i < (Dk.bytesOf (Dk.turnS p by' s)).length := by rw [HL8.out]; omega
          obtain ⟨b1, o1, rfl, c1⟩ := (HR6.out.no TT.out).num hiA
          obtain ⟨b2, o2, rfl, c2⟩ := (HR8.out.no TT.out).num hiB
          have hval := hbt.out.2.2 i hiA
          have h256 : (Dk.bytesOf s).getD i 0 < 256 := by
            unfold Dk.bytesOf
            split
            · simp
            · exact byte_lt hsok.out.b i
          rw [hval] at c2
          clear hval hiA hiB
          obtain ⟨v, hv⟩ : ∃ v, (Dk.bytesOf s).getD i 0 = v := ⟨_, rfl⟩
          rw [hv] at c1 c2 h256
          have hvv : ((v : Int) != (v : Nat)) = false := by simp
          clear hv
          by_cases hip : i = p
          · rw [if_pos hip] at c2
            subst hip
            obtain ⟨u, hu⟩ : ∃ u, v ^^^ by' = u := ⟨_, rfl⟩
            have hxor : bits BinOp.xor .u8 (u : Int) (by' : Int) = (v : Nat) := by
              rw [← hu, u8_xor_nat _ _ (Nat.xor_lt_two_pow (n := 8) h256 Hby.out) Hby.out, Nat.xor_assoc, Nat.xor_self, Nat.xor_zero]
            rw [hu] at c2
            clear hu
            have hp1 : ((i : Int) != (i : Nat)) = false := by simp
            have hp2 : ((i : Int) == (i : Nat)) = true := by simp
            go_wp2_with fail
            go_quiet (fail)
            go_wp2
            go_roundg g'
            case measure => omega
            case rel => exact ⟨i + 1, by omega, by go_num, F.no ((Touch.refl No _).drewN _), TT.out.drewN _⟩
          · rw [if_neg hip] at c2
            have hp1 : ((i : Int) != (p : Nat)) = true := by simp; omega
            have hp2 : ((i : Int) == (p : Nat)) = false := by simp; omega
            clear hip
            go_wp2_with fail
            go_quiet (fail)
            go_wp2
            go_roundg g'
            case measure => omega
            case rel => exact ⟨i + 1, by omega, by go_num, F.no ((Touch.refl No _).drewN _), TT.out.drewN _⟩
end Go.Proofs.Ytechmboimpbjpaa
