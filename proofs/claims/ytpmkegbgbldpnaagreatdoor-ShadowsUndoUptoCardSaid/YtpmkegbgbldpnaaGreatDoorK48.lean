/-
  Layer 18's law: the chapter's store lives.
  Layer 18's law: things that have room.
  What comes in, opened: things, and how much they are together.
  Layer 18's law: things that are put.
-/
import Derived.Test.YtpmkegbgbldpnaaGreatDoorK47
import Derived.Test.YtpmkegbgbldpnaaGreatDoorK02
import Derived.Test.YtpmkegbgbldpnaaGreatDoorRows
namespace Go.Proofs.YtpmkegbgbldpnaaGreatDoor
open Go Go.RowKit
set_option linter.unusedSimpArgs false
set_option linter.unusedVariables false
theorem Sh.putT_epoch (T : Sh.Sto) (id : Nat) (b : List Nat) : (Sh.putT T id b).epoch = T.epoch := by
  unfold Sh.putT; split <;> rfl
theorem Sh.undoT_epoch (T : Sh.Sto) : (Sh.undoT T).epoch = T.epoch := rfl
theorem Sh.epoch4 : Sh.v4.epoch = 1 := (Sh.undoT_epoch Sh.v3).trans ((Sh.putT_epoch Sh.v2 7 [1]).trans Sh.epoch2)
theorem sh_z300 : (z300.setIfInBounds 0 (.int .u8 5)).toList = nums .u8 Sh.b5 := by
  rw [Array.toList_setIfInBounds]
  show (List.replicate 300 (Value.int .u8 0)).set 0 (.int .u8 5) = List.map _ ((List.replicate 300 0).set 0 5)
  rw [List.map_set, List.map_replicate]
  rfl
set_option maxRecDepth 100000 in
set_option maxHeartbeats 8000000 in
theorem shLives (w : World) (hTab : TabAt w) : Calls Tryz.prog 11 #[] w (LawPost w) := by
  have hm3 := made300
  have HTab := Lib.hid hTab
  clear hTab
  go_enter Tryz.func11, Tryz.ntmps11
  go_wp2_with fail
  refine (shOpened w 400 (by decide) (by decide)).mono ?_
  rintro e w1 ⟨d, s, f1, rfl, s1⟩
  have S1 : Hid (Sg true w w1 s d f1 Sh.v0 []) := s1
  clear s1
  have hk : (w1.alloc (.cells z300 5)).cell? ⟨w1.heap.size, 0, none⟩ = some (.int .u8 0) := by rw [cell_new]; rfl
  have hf : (w1.alloc (.cells z300 5)).frozen? ⟨w1.heap.size, 0, none⟩ = false := frozen_new _ _ _ _
  go_wp2_with fail
  obtain ⟨w2, hw2⟩ : ∃ w2, w2 = w1.alloc (.cells (z300.setIfInBounds 0 (.int .u8 5)) 5) := ⟨_, rfl⟩
  obtain ⟨B, hB⟩ : ∃ B, B = w1.heap.size := ⟨_, rfl⟩
  have S2 : Hid (Sg true w w2 s d f1 Sh.v0 [Part.row B 5 (nums .u8 Sh.b5)]) := by
    show Sg _ _ _ _ _ _ _ _
    rw [hw2, hB, ← sh_z300]
    exact Dd.perm (Dd.push S1.out (Born.row w1 5 (z300.setIfInBounds 0 (.int .u8 5)))) (by
      refine (List.Perm.swap _ _ _).trans ((List.Perm.swap _ _ _).cons _))
  rw [← hw2, ← hB]
  clear hw2 hB hk hf hm3 S1
  have C2 := Lib.hid (Ss.freeC S2.out)
  refine C2.out.mono ?_
  rintro e w' ⟨rfl, rfl⟩
  rw [Sh.free0]
  have C3 : Hid (Calls Tryz.prog 14 #[.pointer (some ⟨s, 0, none⟩), .int .u32 7, .slice (some ⟨B, 0, none⟩) 300 300] w2 fun e w' => e = .returned (.int .i64 0) ∧ Sg true w w' s d f1 Sh.v1 [Part.row B 5 (nums .u8 Sh.b5)]) := by
    have := Ss.put S2.out Sh.h0.ok HTab.out 7 (by decide) (some ⟨B, 0, none⟩) 300 300 Sh.b5 Sh.b5_len (by decide) (by decide) (Or.inr (Or.inr (Or.inl ⟨B, _, rfl, List.mem_cons_self⟩))) Sh.b5_lt (by rw [Sh.w0']; decide) (by rw [Sh.p0]; decide)
    rw [Sh.put0] at this
    exact this
  clear C2 S2
  go_wp2_with fail
  refine C3.out.mono ?_
  rintro e w3 ⟨rfl, s3⟩
  have S3 := Lib.hid s3
  clear s3 C3
  go_wp2_with fail
  refine (Ss.freeC S3.out).mono ?_
  rintro e w' ⟨rfl, rfl⟩
  rw [Sh.free1]
  have C4 : Hid (Calls Tryz.prog 16 #[.pointer (some ⟨s, 0, none⟩)] w3 fun e w' => e = .returned (.int .i64 0) ∧ ∃ f', Sg true w w' s d f' Sh.v2 [Part.row B 5 (nums .u8 Sh.b5)]) := by
    have := Ss.commit S3.out Sh.h1.ok HTab.out (by have := Sh.w1'; omega)
    rw [Sh.com1.1] at this
    exact this
  clear S3
  go_wp2_with fail
  refine C4.out.mono ?_
  rintro e w4 ⟨rfl, f2, s4⟩
  have S4 := Lib.hid s4
  clear s4 C4
  go_wp2_with fail
  refine (Ss.freeC S4.out).mono ?_
  rintro e w' ⟨rfl, rfl⟩
  rw [Sh.free2]
  go_wp2_with fail
  obtain ⟨w5, hw5⟩ : ∃ w5, w5 = w4.alloc (.cells #[.int .u8 1] 5) := ⟨_, rfl⟩
  obtain ⟨G, hG⟩ : ∃ G, G = w4.heap.size := ⟨_, rfl⟩
  have S5 : Hid (Sg true w w5 s d f2 Sh.v2 [Part.row G 5 (nums .u8 [1])]) := by
    show Sg _ _ _ _ _ _ _ _
    rw [hw5, hG]
    have h1 : Sg true w w4 s d f2 Sh.v2 [] := S4.out.drop
    exact Dd.perm (Dd.push h1 (Born.row w4 5 #[.int .u8 1])) ((List.Perm.swap _ _ _).trans ((List.Perm.swap _ _ _).cons _))
  rw [← hw5, ← hG]
  have C6 : Hid (Calls Tryz.prog 14 #[.pointer (some ⟨s, 0, none⟩), .int .u32 7, .slice (some ⟨G, 0, none⟩) 1 1] w5 fun e w' => e = .returned (.int .i64 0) ∧ Sg true w w' s d f2 Sh.v3 [Part.row G 5 (nums .u8 [1])]) := by
    have := Ss.put S5.out Sh.h2.ok HTab.out 7 (by decide) (some ⟨G, 0, none⟩) 1 1 [1] rfl (by decide) (by decide) (Or.inr (Or.inr (Or.inl ⟨G, _, rfl, List.mem_cons_self⟩))) (by decide) (by rw [Sh.w2']; decide) (by rw [Sh.p2]; decide)
    rw [Sh.put2] at this
    exact this
  clear hw5 hG S4 S5
  refine C6.out.mono ?_
  rintro e w6 ⟨rfl, s6⟩
  have C7 : Hid (Calls Tryz.prog 22 #[.pointer (some ⟨s, 0, none⟩)] w6 fun e w' => e = .returned (.int .i64 0) ∧ ∃ f', Sg true w w' s d f' Sh.v4 [Part.row G 5 (nums .u8 [1])]) := Ss.undo s6 Sh.h3.ok
  clear s6 C6
  go_wp2_with fail
  refine C7.out.mono ?_
  rintro e w7 ⟨rfl, f3, s7⟩
  have C8 : Hid (Calls Tryz.prog 15 #[.pointer (some ⟨s, 0, none⟩), .int .u32 7] w7 fun e w' => ∃ b, e = .returned (.tuple #[.slice b 300 300, .int .i64 0]) ∧ Sg true w w' s d f3 Sh.v4 (Part.sl 5 b 300 300 (nums .u8 Sh.b5) :: [Part.row G 5 (nums .u8 [1])])) := by
    refine (Ss.get s7 Sh.h4.ok 7 (by decide)).mono ?_
    rintro e w' ⟨b, k, he, hk, h⟩
    rw [Sh.get4.2, Sh.b5_len] at hk
    subst hk
    rw [Sh.get4.1] at he
    rw [Sh.get4.2] at h
    exact ⟨b, he, h⟩
  clear s7 C7
  go_wp2_with fail
  refine C8.out.mono ?_
  rintro e w8 ⟨b, rfl, s8⟩
  have C9 : Hid (Calls Tryz.prog 15 #[.pointer (some ⟨s, 0, none⟩), .int .u32 8] w8 fun e w' => ∃ v, e = .returned (.tuple #[v, .int .i64 7]) ∧ Sg true w w' s d f3 Sh.v4 (Part.sl 5 b 300 300 (nums .u8 Sh.b5) :: [Part.row G 5 (nums .u8 [1])])) := by
    refine (Ss.get s8 Sh.h4.ok 8 (by decide)).mono ?_
    rintro e w' ⟨b, k, he, hk, h⟩
    rw [Sh.get8.1] at he
    exact ⟨_, he, Sg.drop h⟩
  clear s8 C8
  go_wp2_with fail
  refine C9.out.mono ?_
  rintro e w9 ⟨v, rfl, s9⟩
  obtain ⟨gb, go, hb, hc⟩ := (s9.rd List.mem_cons_self).num (i := 0) (by rw [Sh.b5_len]; decide)
  have h5 : Sh.b5.getD 0 0 = 5 := by
    rw [Sh.b5, List.getD_eq_getElem?_getD, List.getElem?_set_self (by rw [List.length_replicate]; decide)]; rfl
  rw [h5] at hc
  subst hb
  have S9 := Lib.hid s9
  have CE : Hid (Calls Tryz.prog 24 #[.pointer (some ⟨s, 0, none⟩)] w9 fun e w' => e = .returned (.int .u32 1) ∧ w9 = w') := by
    have := Ss.epochC s9
    rw [show Sh.v4.epoch = 1 from Sh.epoch4] at this
    exact this
  have hc0 : w9.cell? ⟨gb, go, none⟩ = some (.int .u8 5) := hc
  clear s9 C9 h5 hc
  go_wp2_with fail
  refine (shOpen_nil w9).mono ?_
  rintro e w' ⟨rfl, rfl⟩
  go_wp2_with fail
  refine CE.out.mono ?_
  rintro e w' ⟨rfl, rfl⟩
  go_wp2_with fail
  refine (shCommit_nil w9).mono ?_
  rintro e w' ⟨rfl, rfl⟩
  go_wp2
  go_ret
  exact ⟨rfl, S9.out.end⟩
end Go.Proofs.YtpmkegbgbldpnaaGreatDoor
namespace Go.Proofs.YtpmkegbgbldpnaaGreatDoor
open Go Go.RowKit
set_option linter.unusedSimpArgs false
set_option linter.unusedVariables false
namespace Sh
def bulk (l : List TgDeed) : Nat := (l.map fun x => 500 + x.b.length).sum
theorem bulk_snoc {l : List TgDeed} {k : Nat} (hk : k < l.length) : bulk (l.take (k + 1)) = bulk (l.take k) + (500 + l[k].b.length) := by
  rw [bulk, List.take_add_one, List.getElem?_eq_getElem hk, List.map_append, List.sum_append]
  simp [bulk]
theorem bulk_take (l : List TgDeed) (k : Nat) : bulk (l.take k) ≤ bulk l := by
  conv => rhs; rw [← List.take_append_drop k l]
  rw [bulk, bulk, List.map_append, List.sum_append]
  omega
end Sh
set_option maxRecDepth 100000 in
set_option maxHeartbeats 4000000 in
theorem shFit (w : World) (a : Option Addr) (n c : Nat) (l : List TgDeed) (hl : IsTgDeeds w a l) (hn : l.length = n) (hs : Sh.bulk l ≤ 1000000000000) :
    Calls Tryz.prog 18 #[.slice a n c] w fun e w' => e = .returned (.bool (decide ((Sh.bulk l : Int) ≤ 15000))) ∧ w = w' := by
  have HL := Lib.hid hl
  have HN := Lib.hid hn
  have HS := Lib.hid hs
  have hnb : n ≤ 1000000000000 := by
    have h : l.length ≤ Sh.bulk l := by
      clear hl hn hs HL HN HS
      induction l with
      | nil => exact Nat.zero_le _
      | cons x r ih => simp only [Sh.bulk, List.map_cons, List.sum_cons, List.length_cons] at ih ⊢; omega
    omega
  clear hl hn hs
  go_enter Tryz.func18, Tryz.ntmps18
  go_wp2
  go_loopg [3, 4] n (fun g s3 s4 wr => ∃ k m : Nat, k + g = n ∧ s4 = .int .i64 ((k : Nat) : Int) ∧ s3 = .int .i64 ((m : Nat) : Int) ∧ Hid (Sh.bulk (l.take k) = m) ∧ wr = w)
  case atStart => exact ⟨0, 0, by omega, rfl, rfl, by show Sh.bulk (l.take 0) = 0; rw [List.take_zero]; rfl, rfl⟩
  case round =>
    obtain ⟨k, m, hkn, rfl, rfl, Hm, rfl⟩ := hrel
    have hmb : (m : Int) ≤ 1000000000000 := by have h1 := Hm.out; have h2 := Sh.bulk_take l k; have h3 := HS.out; omega
    cases gk with
    | zero =>
      obtain rfl : k = n := by omega
      have e : l.take k = l := List.take_of_length_le (by rw [HN.out]; exact Nat.le_refl _)
      have Hb : Hid (Sh.bulk l = m) := by have := Hm.out; rw [e] at this; exact this
      clear e
      go_wp2
      go_ret
      exact ⟨by rw [Hb.out]; rfl, rfl⟩
    | succ g =>
      have hki : (k : Int) < (n : Nat) := by omega
      have hkl : k < l.length := by rw [HN.out]; omega
      have hsn := Sh.bulk_snoc hkl
      obtain ⟨x, hx⟩ : ∃ x, l[k] = x := ⟨_, rfl⟩
      rw [hx] at hsn
      obtain ⟨g0, o0, ha, hA⟩ := HL.out k x (by rw [List.getElem?_eq_getElem hkl, hx])
      subst ha
      obtain ⟨id, b, ba, bc⟩ := x
      obtain ⟨nb, hnb2⟩ : ∃ nb, b.length = nb := ⟨_, rfl⟩
      have hc : wr.cell? ⟨g0, o0 + k * 2 + 1, none⟩ = some (.slice ba nb bc) := by have := hA.cell 1 (by decide); rw [this, ← hnb2]; rfl
      have Hm2 : Hid (Sh.bulk (l.take (k + 1)) = m + 500 + nb) := by show _ = _; rw [hsn, Hm.out, ← hnb2]; show _ + (500 + b.length) = _; omega
      have hmb2 : (m : Int) + 500 + nb ≤ 1000000000000 := by have h1 := Hm2.out; have h2 := Sh.bulk_take l (k + 1); have h3 := HS.out; omega
      clear hsn hx hkl hnb2 hA
      go_wp2
      go_roundg g
      case measure => omega
      case rel => exact ⟨k + 1, m + 500 + nb, by omega, by go_num, by go_num, Hm2.out, rfl⟩
end Go.Proofs.YtpmkegbgbldpnaaGreatDoor
namespace Go.Proofs.YtpmkegbgbldpnaaGreatDoor
open Go.ChangeShapes Go.WideShapes Go.ChangeAt Go.RowKit
set_option linter.unusedSimpArgs false
set_option linter.unusedVariables false
theorem bulk_one {H : Type} (d : DataW H) : 1 ≤ Rows.uptoBulk d := by
  cases d with
  | lit l => cases l <;> simp [Rows.uptoBulk]
  | nil => simp [Rows.uptoBulk]
  | ptr d => simp [Rows.uptoBulk]
  | slice elems spare => simp [Rows.uptoBulk]
  | agg parts => simp [Rows.uptoBulk]
  | iface t d => simp [Rows.uptoBulk]
  | map entries => simp [Rows.uptoBulk]
  | held h => simp [Rows.uptoBulk]
theorem bulk_len {H : Type} (l : List (DataW H)) : l.length ≤ Rows.uptoBulkAll l := by
  induction l with
  | nil => simp [Rows.uptoBulkAll]
  | cons x r ih => have := bulk_one x; simp only [Rows.uptoBulkAll, List.length_cons]; omega
theorem bulk_part {H : Type} {d : DataW H} {l : List (DataW H)} (h : d ∈ l) : Rows.uptoBulk d ≤ Rows.uptoBulkAll l := by
  induction l with
  | nil => cases h
  | cons x r ih =>
    simp only [Rows.uptoBulkAll]
    rcases List.mem_cons.1 h with e | e
    · subst e; omega
    · have := ih e; omega
section
variable {H : Type} {enc : TypeId × Value → H} {w : World}
/-- a slice is as long as its reading is great -/
theorem bulk_slice {t e : TypeId} {fuel : Nat} {cs : List Value} {x : DataW H × List MemPlace} (ht : Tryz.prog.underlying t = some (.slice e)) (h : DataW.trod enc Tryz.prog w 0 (fun _ => true) true fuel t cs = some x)
    {a : Option Addr} {n cap : Nat} (hc : cs = [.slice a n cap]) : n + 1 ≤ Rows.uptoBulk x.1 := by
  subst hc
  rcases DataW.trod_slice ht h with ⟨hh, rfl⟩ | ⟨a', len, cap', elems, rest, m, rfl, hh, rfl, hb, hl, hm, hlen, hel, _, _⟩
  · simp only [List.cons.injEq, Value.slice.injEq, and_true] at hh
    obtain ⟨_, rfl, _⟩ := hh
    simp [Rows.uptoBulk]
  · simp only [List.cons.injEq, Value.slice.injEq, and_true] at hh
    obtain ⟨_, rfl, _⟩ := hh
    have := bulk_len (elems.map (·.1))
    rw [List.length_map] at this
    simp only [Rows.uptoBulk]
    omega
set_option maxRecDepth 100000 in
theorem bulk_thing {fuel : Nat} {cs : List Value} {x : DataW H × List MemPlace} {c o : Nat} {d : TgDeed} (hc : ∀ j, j < 2 → w.cell? ⟨c, o + j, none⟩ = cs[j]?)
    (h : DataW.trod enc Tryz.prog w 0 (fun _ => true) true fuel 49 cs = some x) (hd : TgDeedAt w c o d) : d.b.length + 3 ≤ Rows.uptoBulk x.1 := by
  obtain ⟨xs, n, rfl, rfl, hlen, hxs, hf⟩ := DataW.trod_struct Tryz.underlying49 h
  rw [cells_tg_act] at hlen
  have f1 : DataW.trod enc Tryz.prog w 0 (fun _ => true) true n 22 (List.take (Tryz.prog.cellsOf 22) (List.drop 1 cs)) = xs[1]? := hf 1 _ rfl
  rw [cells_tg_bytes] at f1
  match xs, hxs with
  | [x0, x1], _ =>
  match cs, hlen with
  | [c0, c1], _ =>
    have e1 := (hc 1 (by decide)).symm.trans (hd.cell 1 (by decide))
    have e2 : c1 = .slice d.b_a d.b.length d.b_cap := by simpa [TgDeed.cells] using e1
    have hb := bulk_slice Tryz.underlying22 (show DataW.trod enc Tryz.prog w 0 (fun _ => true) true n 22 [c1] = some x1 from f1) (a := d.b_a) (n := d.b.length) (cap := d.b_cap) (by rw [e2])
    have h0 := bulk_one x0.1
    show _ ≤ Rows.uptoBulk (.agg [x0.1, x1.1])
    simp only [Rows.uptoBulk, Rows.uptoBulkAll]
    omega
theorem bulk_sum {α : Type} : ∀ (l : List α) (m : List (DataW H)) (f : α → Nat), l.length = m.length → (∀ i (h1 : i < l.length) (h2 : i < m.length), f l[i] ≤ Rows.uptoBulk m[i]) → (l.map f).sum ≤ Rows.uptoBulkAll m
  | [], [], f, _, _ => Nat.le_refl _
  | x :: l, y :: m, f, h, hf => by
    simp only [List.map_cons, List.sum_cons, Rows.uptoBulkAll]
    have h0 := hf 0 (Nat.zero_lt_succ _) (Nat.zero_lt_succ _)
    have h1 := bulk_sum l m f (by simpa using h) (fun i h1 h2 => hf (i + 1) (by simpa using h1) (by simpa using h2))
    simp only [List.getElem_cons_zero] at h0
    omega
set_option maxRecDepth 100000 in
/-- a slice of things that came in, with how much it is -/
theorem open_tg_deedsB {fuel : Nat} {cs : List Value} {x : DataW H × List MemPlace}
    (h : DataW.trod enc Tryz.prog w 0 (fun _ => true) true fuel 39 cs = some x) (hz : ∀ n ∈ DataW.weights Tryz.prog 39 x.1, n ≤ reachBytes) :
    ∃ ad n cap acts, cs = [.slice ad n cap] ∧ acts.length = n ∧ IsTgDeeds w ad acts ∧ (acts.map fun d => d.b.length + 3).sum ≤ Rows.uptoBulk x.1 := by
  rcases DataW.trod_slice Tryz.underlying39 h with ⟨rfl, rfl⟩ | ⟨a, len, cap, elems, rest, n, rfl, rfl, rfl, hb, hl, hm, hlen, hel, _, _⟩
  · exact ⟨none, 0, 0, [], rfl, rfl, fun i x hx => by simp at hx, Nat.zero_le _⟩
  · rw [cells_tg_act] at hel
    have each : ∀ i, i < len → ∃ d : TgDeed, (a = ⟨a.block, a.off, none⟩ ∧ TgDeedAt w a.block (a.off + i * 2) d) ∧ ∀ (hi : i < elems.length), d.b.length + 3 ≤ Rows.uptoBulk elems[i].1 := by
      intro i hi
      have h1 := hel i hi
      rw [List.getElem?_eq_getElem (by omega)] at h1
      obtain ⟨cs, hcs, htr⟩ := Option.bind_eq_some_iff.1 h1
      have hsp0 : a = ⟨a.block, a.off, none⟩ := by
        have h0 := hel 0 (by omega)
        rw [List.getElem?_eq_getElem (by omega)] at h0
        obtain ⟨cs0, hcs0, _⟩ := Option.bind_eq_some_iff.1 h0
        have := (cells_elem hcs0 (by decide)).2.1
        simpa [Addr.add] using this
      have hadd : a.add (i * 2) = ⟨a.block, a.off + i * 2, none⟩ := by rw [hsp0, add_plain]
      rw [hadd] at hcs
      obtain ⟨_, _, hcell⟩ := cells_elem hcs (by decide)
      obtain ⟨d, hd⟩ := open_tg_deed hcell htr (fun m hm' => hz m (by
        have hw : ∀ (l : List (DataW H × List MemPlace)) (y : DataW H × List MemPlace), y ∈ l → m ∈ DataW.weights Tryz.prog 49 y.1 → m ∈ DataW.weightsAll Tryz.prog 49 (l.map (·.1)) := by
          intro l
          induction l with
          | nil => intro y hy; cases hy
          | cons z l ih =>
            intro y hy hm2
            simp only [List.map_cons, DataW.weightsAll, List.mem_append]
            rcases List.mem_cons.1 hy with rfl | hy
            · exact Or.inl hm2
            · exact Or.inr (ih y hy hm2)
        simp only [DataW.weights, Tryz.underlying39, List.mem_cons, List.mem_append]
        exact Or.inr (Or.inl (hw elems _ (List.getElem_mem _) hm'))))
      exact ⟨d, ⟨hsp0, hd⟩, fun hi => bulk_thing hcell htr hd⟩
    obtain ⟨acts, hacts, hq⟩ := list_choose len each
    refine ⟨some a, len, cap, acts, rfl, hacts, fun i d hd => ?_, ?_⟩
    · obtain ⟨⟨e, hd'⟩, _⟩ := hq i d hd
      exact ⟨a.block, a.off, by rw [← e], hd'⟩
    · have hs := bulk_sum acts (elems.map (·.1)) (fun d => d.b.length + 3) (by rw [hacts, List.length_map, hlen]) (fun i h1 h2 => by
        have := (hq i acts[i] (List.getElem?_eq_getElem h1)).2 (by rw [List.length_map] at h2; exact h2)
        simpa using this)
      simp only [Rows.uptoBulk]
      omega
end
theorem bulk_of_sum (l : List TgDeed) : Sh.bulk l ≤ 500 * (l.map fun d => d.b.length + 3).sum := by
  induction l with
  | nil => exact Nat.le_refl _
  | cons x r ih =>
    have e : Sh.bulk (x :: r) = 500 + x.b.length + Sh.bulk r := by simp [Sh.bulk]
    rw [e, List.map_cons, List.sum_cons]
    omega
end Go.Proofs.YtpmkegbgbldpnaaGreatDoor
namespace Go.Proofs.YtpmkegbgbldpnaaGreatDoor
open Go Go.RowKit
set_option linter.unusedSimpArgs false
set_option linter.unusedVariables false
namespace Sh
def putAll (T : Sto) (l : List TgDeed) : Sto := l.foldl (fun T x => putT T x.id x.b) T
theorem putAll_snoc {T : Sto} {l : List TgDeed} {k : Nat} (hk : k < l.length) : putAll T (l.take (k + 1)) = putT (putAll T (l.take k)) l[k].id l[k].b := by
  rw [putAll, List.take_add_one, List.getElem?_eq_getElem hk, List.foldl_append]
  rfl
/-- each is put well -/
def AllPut (T : Sto) (l : List TgDeed) : Prop := ∀ j (hj : j < l.length), Ok (putAll T (l.take j)) ∧ putE (putAll T (l.take j)) l[j].id l[j].b.length = 0 ∧ (putAll T (l.take j)).D.waits.length ≤ 90000 ∧ (putAll T (l.take j)).puts ≤ 1000000
end Sh
/-- the cells of things, where they lie -/
def TgRow (w : World) (ad : Option Addr) (l : List TgDeed) : Prop := ∀ i x, l[i]? = some x → ∃ c o, ad = some ⟨c, o, none⟩ ∧ ∀ j, j < 2 → w.cell? ⟨c, o + i * 2 + j, none⟩ = x.cells[j]?
/-- their bytes are old ones -/
def TgGood (w0 : World) (l : List TgDeed) : Prop := ∀ x ∈ l, x.id < 4294967296 ∧ Rd w0 x.b_a (nums .u8 x.b) ∧ x.b.length ≤ x.b_cap ∧ ∀ y ∈ x.b, y < 256
theorem IsTgDeeds.row {w : World} {ad : Option Addr} {l : List TgDeed} (h : IsTgDeeds w ad l) : TgRow w ad l := fun i x hx => by
  obtain ⟨c, o, e, ha⟩ := h i x hx
  exact ⟨c, o, e, ha.cell⟩
theorem IsTgDeeds.good {w : World} {ad : Option Addr} {l : List TgDeed} (h : IsTgDeeds w ad l) : TgGood w l := fun x hx => by
  obtain ⟨i, hi, e⟩ := List.mem_iff_getElem.1 hx
  obtain ⟨c, o, _, ha⟩ := h i x (by rw [List.getElem?_eq_getElem hi, e])
  exact ⟨ha.id_lt, ha.b_rd, ha.b_le, ha.b_each⟩
theorem TgGood.touch {w w' : World} {l : List TgDeed} (h : TgGood w l) (t : Touch No w w') : TgGood w' l := fun x hx => ⟨(h x hx).1, (h x hx).2.1.no t, (h x hx).2.2⟩
/-- wherever a store stands among these, things lie so -/
def TgAny (w0 : World) (s d : Nat) (E : List Part) (a : Option Addr) (l : List TgDeed) : Prop := ∀ w' f' T', Sg true w0 w' s d f' T' E → TgRow w' a l
theorem IsTgDeeds.any {w0 : World} {s d : Nat} {E : List Part} {ad : Option Addr} {l : List TgDeed} (h : IsTgDeeds w0 ad l) : TgAny w0 s d E ad l := fun _ _ _ hs => (h.touch hs.end).row
section
variable {w0 w w' : World} {s d f : Nat} {T : Sh.Sto} {E : List Part}
set_option maxRecDepth 100000 in
set_option maxHeartbeats 4000000 in
theorem shPutAll (h : Sg true w0 w s d f T E) (hTab : TabAt w0) (a : Option Addr) (n c : Nat) (l : List TgDeed) (hl : TgAny w0 s d E a l) (hg : TgGood w0 l) (hn : l.length = n) (hnm : (n : Int) ≤ 1000000000000) (hP : Sh.AllPut T l) :
    Calls Tryz.prog 19 #[.pointer (some ⟨s, 0, none⟩), .slice a n c] w fun e w' => e = .returned (.bool true) ∧ Sg true w0 w' s d f (Sh.putAll T l) E := by
  have H := Lib.hid h
  have HL := Lib.hid hl
  have HG := Lib.hid hg
  have HN := Lib.hid hn
  have HT := Lib.hid hTab
  have HP := Lib.hid hP
  clear h hl hg hn hTab hP
  go_enter Tryz.func19, Tryz.ntmps19
  go_wp2
  go_loopg [5] n (fun g s5 wr => ∃ k : Nat, k + g = n ∧ s5 = .int .i64 ((k : Nat) : Int) ∧ Hid (Sg true w0 wr s d f (Sh.putAll T (l.take k)) E))
  case atStart => exact ⟨0, by omega, rfl, by show Sg _ _ _ _ _ _ _ _; rw [List.take_zero]; exact H.out⟩
  case round =>
    clear H
    obtain ⟨k, hkn, rfl, HS⟩ := hrel
    cases gk with
    | zero =>
      obtain rfl : k = n := by omega
      have e : l.take k = l := List.take_of_length_le (by rw [HN.out]; exact Nat.le_refl _)
      have S1 : Hid (Sg true w0 wr s d f (Sh.putAll T l) E) := by have := HS.out; rw [e] at this; exact this
      clear e HS
      go_wp2
      go_ret
      exact ⟨rfl, S1.out⟩
    | succ g =>
      have hki : (k : Int) < (n : Nat) := by omega
      have hkl : k < l.length := by rw [HN.out]; omega
      have hsn := Sh.putAll_snoc (T := T) hkl
      obtain ⟨hO, hE, hW, hU⟩ := HP.out k hkl
      obtain ⟨x, hx⟩ : ∃ x, l[k] = x := ⟨_, rfl⟩
      rw [hx] at hsn hE
      obtain ⟨g0, o0, ha, hA⟩ := HL.out _ _ _ HS.out k x (by rw [List.getElem?_eq_getElem hkl, hx])
      have hGx := HG.out x (by rw [← hx]; exact List.getElem_mem hkl)
      subst ha
      have hAn : ∀ w' f' T', Sg true w0 w' s d f' T' E → ∀ j, j < 2 → w'.cell? ⟨g0, o0 + k * 2 + j, none⟩ = x.cells[j]? := fun w' f' T' h => by
        obtain ⟨c, o, e, hc⟩ := HL.out _ _ _ h k x (by rw [List.getElem?_eq_getElem hkl, hx])
        simp only [Option.some.injEq, Addr.mk.injEq, and_true] at e
        obtain ⟨rfl, rfl⟩ := e
        exact hc
      have S1 := Lib.hid (Sg.no HS.out (Touch.refl No wr).drew)
      have CP := Lib.hid (Ss.put S1.out hO HT.out x.id hGx.1 x.b_a x.b.length x.b_cap x.b rfl hGx.2.2.1 (by have := (Sh.putE_ok hE).1; omega) (Or.inl hGx.2.1) hGx.2.2.2 hW hU)
      rw [hE, ← hsn] at CP
      have c0 : wr.cell? ⟨g0, o0 + k * 2, none⟩ = some (.int .u32 (x.id : Nat)) := hA 0 (by decide)
      have c1 : wr.cell? ⟨g0, o0 + k * 2 + 1, none⟩ = some (.slice x.b_a x.b.length x.b_cap) := hA 1 (by decide)
      have hS : wr.cell? ⟨g0, o0 + k * 2, none⟩ = some (.int .u32 (x.id : Nat)) ∧ wr.cell? ⟨g0, o0 + k * 2 + 1, none⟩ = some (.slice x.b_a x.b.length x.b_cap) := ⟨c0, c1⟩
      have HA0 := Lib.hid hAn
      clear hO hE hW hU hsn hx hkl hA hAn hGx
      go_wp2_with fail
      go_region_held3 (fun w' => w'.cell? ⟨g0, o0 + k * 2, none⟩ = some (.int .u32 (x.id : Nat)) ∧ w'.cell? ⟨g0, o0 + k * 2 + 1, none⟩ = some (.slice x.b_a x.b.length x.b_cap)) (first | exact hS | exact ⟨HA0.out _ _ _ S1.out 0 (by decide), HA0.out _ _ _ S1.out 1 (by decide)⟩ | exact ⟨HA0.out _ _ _ s5 0 (by decide), HA0.out _ _ _ s5 1 (by decide)⟩) (first
        | (go_at_call 14; refine CP.out.mono ?_; rintro e w5 ⟨rfl, s5⟩))
      all_goals
        have S5 := Lib.hid s5
        clear s5 S1 CP c0 c1 hS HS HA0
        go_wp2
        go_roundg g
        case measure => omega
        case rel => exact ⟨k + 1, by omega, by go_num, S5.out⟩
end
end Go.Proofs.YtpmkegbgbldpnaaGreatDoor
