/-
  A store's room: plain. No program in sight.
  Layer 18's law: a store is opened; the chapter's store lives.
  Layer 18's law: the chapter's store lives.
  Layer 18's law: things that have room.
  What comes in, opened: things, and how much they are together.
-/
import Derived.Test.YtpmkegbgbldpnaaGreatDoorK43
import Derived.Test.YtpmkegbgbldpnaaGreatDoorK01
import Derived.Test.YtpmkegbgbldpnaaGreatDoorRows
namespace Go.Proofs.YtpmkegbgbldpnaaGreatDoor
set_option maxRecDepth 100000
open Go Go.RowKit
set_option linter.unusedSimpArgs false
set_option linter.unusedVariables false
namespace Mp
theorem look_map {α β : Type} (l : List (Nat × α)) (f : α → β) (id : Nat) : look (l.map fun p => (p.1, f p.2)) id = (look l id).map f := by
  induction l with
  | nil => rfl
  | cons p r ih =>
    obtain ⟨k, x⟩ := p
    simp only [List.map_cons, look]
    split
    · rfl
    · exact ih
end Mp
namespace Sh
def pgs (l : List (Nat × Th)) : List Nat := l.flatMap fun p => p.2.pages
theorem pgs_length (l : List (Nat × Th)) : (pgs l).length = (l.map fun p => p.2.pages.length).sum := by
  rw [pgs, List.length_flatMap]
theorem Con.takes {D : Dk.Disk} {l : List (Nat × Th)} {c : List (Nat × List Nat)} (h : Con D l c) (hu : Mp.Up l) (ht : ∀ p ∈ l, ThOk p) : (pgs l).length = Sh.takes c := by
  have e : (l.map fun p => (p.1, Ex.pages p.2.bytes)) = (c.map fun p => (p.1, Ex.pages p.2.length)) := by
    refine Mp.ext (Mp.map_up hu (fun p => Ex.pages p.2.bytes)) (Mp.map_up h.up (fun p => Ex.pages p.2.length)) (fun id => ?_)
    rw [Mp.look_map l (fun x => Ex.pages x.bytes), Mp.look_map c (fun b => Ex.pages b.length)]
    have h1 := h.ids id
    cases hx : Mp.look l id with
    | none =>
      rw [hx] at h1
      cases hb : Mp.look c id with
      | none => rfl
      | some b => rw [hb] at h1; cases h1
    | some x =>
      rw [hx] at h1
      cases hb : Mp.look c id with
      | none => rw [hb] at h1; cases h1
      | some b => simp only [Option.map_some]; rw [(h.good id x b hx hb).bytes]
  have e2 := congrArg (fun l => (l.map Prod.snd).sum) e
  simp only [List.map_map] at e2
  rw [pgs_length, Sh.takes]
  rw [show (l.map fun p => p.2.pages.length) = l.map (Prod.snd ∘ fun p => (p.1, Ex.pages p.2.bytes)) from List.map_congr_left (fun p hp => (ht p hp).len)]
  exact e2
/-- how long a table of it is -/
def tabN (c : List (Nat × List Nat)) : Nat := 12 * c.length + 4 * takes c
theorem tabB_len (l : List (Nat × Th)) : (tabB l).length = 12 * l.length + 4 * (pgs l).length := by
  induction l with
  | nil => rfl
  | cons p r ih =>
    rw [show tabB (p :: r) = rowB p ++ tabB r from rfl, List.length_append, rowB_length, ih, show pgs (p :: r) = p.2.pages ++ pgs r from rfl, List.length_append, List.length_cons]
    omega
section
variable {T : Sto} {c k : List (Nat × List Nat)}
theorem Has.tab (h : Has T c k) : (tabB T.now).length = tabN c := by rw [tabB_len, h.len, h.now.takes h.ok.upn h.ok.thn, tabN]
theorem Has.comN (h : Has T c k) : Sh.comN T = Ex.pages (tabN c) := by rw [Sh.comN, h.tab]
theorem nodup_append3 {a b e : List Nat} (ha : a.Nodup) (hb : b.Nodup) (he : e.Nodup) (h1 : Dj a b) (h2 : Dj a e) (h3 : Dj b e) : (a ++ (b ++ e)).Nodup :=
  List.nodup_append.2 ⟨ha, List.nodup_append.2 ⟨hb, he, fun x hx y hy e => by subst e; exact h3 x hx hy⟩, fun x hx y hy e => by
    subst e
    rcases List.mem_append.1 hy with h | h
    · exact h1 x hx h
    · exact h2 x hx h⟩
theorem mem_pgs {l : List (Nat × Th)} {x : Nat} : x ∈ pgs l ↔ ∃ p ∈ l, x ∈ p.2.pages := List.mem_flatMap
theorem Ok.room (h : Ok T) : (Fr.lst T.S).length + (T.table.length + ((pgs T.kept).length + (pgs (T.now.filter fun p => p.2.fresh)).length)) = many T.D := by
  have hf : ∀ p, p ∈ T.now.filter (fun p => p.2.fresh) ↔ p ∈ T.now ∧ p.2.fresh = true := fun p => List.mem_filter
  have := h.count (L := T.table ++ (pgs T.kept ++ pgs (T.now.filter fun p => p.2.fresh))) (nodup_append3 h.tnod (flat_nodup h.upk (fun p hp => (h.thk p hp).nod) h.kk) (flat_nodup (h.upn.filter _) (fun p hp => (h.thn p ((hf p).1 hp).1).nod) (fun p hp q hq => h.nn p ((hf p).1 hp).1 q ((hf q).1 hq).1))
    (fun x hx hy => by obtain ⟨p, hp, h2⟩ := mem_pgs.1 hy; exact h.tk p hp x hx h2)
    (fun x hx hy => by obtain ⟨p, hp, h2⟩ := mem_pgs.1 hy; exact h.tn p ((hf p).1 hp).1 x hx h2)
    (fun x hx hy => by
      obtain ⟨p, hp, h2⟩ := mem_pgs.1 hx
      obtain ⟨q, hq, h3⟩ := mem_pgs.1 hy
      exact h.kn p hp q ((hf q).1 hq).1 ((hf q).1 hq).2 x h2 h3)) (fun x => by
    rw [List.mem_append, List.mem_append, mem_pgs, mem_pgs]
    constructor
    · rintro (h1 | h1 | ⟨p, hp, h2⟩)
      · exact Or.inl h1
      · exact Or.inr (Or.inl h1)
      · exact Or.inr (Or.inr ⟨p, ((hf p).1 hp).1, ((hf p).1 hp).2, h2⟩)
    · rintro (h1 | h1 | ⟨p, hp, h2, h3⟩)
      · exact Or.inl h1
      · exact Or.inr (Or.inl h1)
      · exact Or.inr (Or.inr ⟨p, (hf p).2 ⟨hp, h2⟩, h3⟩))
  rw [List.length_append, List.length_append] at this
  exact this
/-- just so many, where nothing was put -/
theorem Has.calm (h : Has T c k) (hc : ∀ p ∈ T.now, p.2.fresh = false) : (Fr.lst T.S).length + T.table.length + Sh.takes k = many T.D := by
  have h1 := h.ok.room
  rw [h.kept.takes h.ok.upk h.ok.thk, show T.now.filter (fun p => p.2.fresh) = [] from List.filter_eq_nil_iff.2 (fun p hp => by rw [hc p hp]; decide)] at h1
  simp only [pgs, List.flatMap_nil, List.length_nil] at h1
  omega
theorem settle_calm (D : Dk.Disk) (e : Nat) (t : List Nat) (l : List (Nat × Th)) : ∀ p ∈ (settle D e t l).now, p.2.fresh = false := fun p hp => by
  obtain ⟨q, _, rfl⟩ := mem_old hp
  rfl
theorem drop_more (T : Sto) (id : Nat) : (Fr.lst T.S).length ≤ (Fr.lst (dropS T (Mp.look T.now id))).length := by
  have hS : ∀ x, T.S x = true → dropS T (Mp.look T.now id) x = true := fun x hx => by
    cases hl : Mp.look T.now id with
    | none => exact hx
    | some y =>
      rw [dropS]
      split
      · exact add_true.2 (Or.inl hx)
      · exact hx
  have e : Fr.lst T.S = (Fr.lst (dropS T (Mp.look T.now id))).filter T.S := by
    rw [Fr.lst, Fr.lst, List.filter_filter]
    refine List.filter_congr (fun x _ => ?_)
    cases h : T.S x with
    | false => rfl
    | true => rw [hS x h]; rfl
  rw [e]
  exact List.length_filter_le _ _
theorem putE_zero {id n : Nat} (h1 : n ≤ 65536) (h2 : T.now.length < 64 ∨ (Mp.look T.now id).isSome = true) (h3 : Ex.pages n ≤ (Fr.lst T.S).length) : putE T id n = 0 := by
  have := drop_more T id
  rw [putE, if_neg (by omega), if_neg (fun e => by rcases h2 with h | h; omega; rw [e.1] at h; cases h), if_neg (by omega)]
/-! ### the root -/
theorem root_new {n : Nat} (h : 8 ≤ n) : Rt.At (newS (Dk.new n)).D (newS (Dk.new n)).epoch := Rt.At.new h
theorem Has.root_put (h : Has T c k) (hr : Rt.At T.D T.epoch) (id : Nat) (b : List Nat) : Rt.At (putT T id b).D (putT T id b).epoch := by
  unfold putT
  split
  · exact hr.pages (fun p hp => (h.ok.put_new hp).1) _ _
  · exact hr
theorem Has.com2_root (h : Has T c k) (hr : Rt.At T.D T.epoch) (hf : comF T) : Rt.At (comD2 T) T.epoch :=
  (hr.page ((h.ok.com_free (x := comH T) (by rw [comL_cons hf]; exact List.mem_cons_self)).1) _ _).pages (fun p hp => (h.ok.com_free (List.mem_of_mem_tail hp)).1) _ _
theorem Has.com_yes (h : Has T c k) (hr : Rt.At T.D T.epoch) (hf : comF T) (he : T.epoch + 1 < 4294967296) : comE T = 0 ∧ Rt.At (comT T).D (comT T).epoch ∧ (comT T).epoch = T.epoch + 1 ∧ (comT T).table.length = Ex.pages (tabN c) + 1 ∧ (∀ p ∈ (comT T).now, p.2.fresh = false) ∧ (comT T).puts = 64 := by
  have hn : nx T.epoch = T.epoch + 1 := Nat.mod_eq_of_lt he
  have h2 := h.com2_root hr hf
  have hH : comH T < 4294967296 := by
    have := (h.ok.com_free (x := comH T) (by rw [comL_cons hf]; exact List.mem_cons_self)).2.1
    have := many_le h.ok.hi
    omega
  have ho : (comR T).Ok := ⟨nx_lt _, hH, by have := h.ok.tab_le; show (tabB T.now).length < _; omega⟩
  have hlt : T.epoch < (comR T).epoch := by show _ < nx _; omega
  have hw := h2.may hlt
  have e0 : comE T = 0 := by rw [comE, if_pos hf, hw]
  have e : comT T = settle (Rt.wD (comD2 T) (comR T)) (nx T.epoch) (comL T) T.now := by rw [comT, if_pos hf, if_pos hw]
  refine ⟨e0, ?_, ?_, ?_, ?_, ?_⟩ <;> rw [e]
  · exact (h2.root hlt ho).2.2
  · exact hn
  · show (comL T).length = _
    rw [comL_length hf, h.comN]
  · exact settle_calm _ _ _ _
  · rfl
theorem Has.com_full (h : Has T c k) (h1 : Ex.pages (tabN c) ≤ 60) (h2 : Ex.pages (tabN c) + 1 ≤ (Fr.lst T.S).length) : comF T := ⟨by rw [h.comN]; exact h1, by rw [h.comN]; exact h2⟩
end
end Sh
end Go.Proofs.YtpmkegbgbldpnaaGreatDoor
namespace Go.Proofs.YtpmkegbgbldpnaaGreatDoor
set_option maxRecDepth 100000
open Go Go.RowKit
set_option linter.unusedSimpArgs false
set_option linter.unusedVariables false
namespace Sh
section
variable {T : Sto} {c k : List (Nat × List Nat)}
theorem waits_put (T : Sto) (id : Nat) (b : List Nat) : (putT T id b).D.waits.length ≤ T.D.waits.length + 4 * Ex.pages b.length := by
  unfold putT
  split
  · exact Ex.wD_waits _ _ _ _
  · omega
theorem waits_com (T : Sto) (h : comE T = 0) : (comT T).D.waits.length = 0 := by
  have hf : comF T := by
    by_cases hf : comF T
    · exact hf
    · rw [comE, if_neg hf] at h; cases h
  have hr : Rt.wE (comD2 T) (comR T) = 0 := by rw [comE, if_pos hf] at h; exact h
  rw [comT, if_pos hf, if_pos hr]
  show (Rt.wD _ _).waits.length = 0
  rw [Rt.wD, if_pos hr]
  rfl
end
/-! ### the chapter's store -/
def b5 : List Nat := (List.replicate 300 0).set 0 5
theorem b5_len : b5.length = 300 := by rw [b5, List.length_set, List.length_replicate]
theorem b5_lt : ∀ x ∈ b5, x < 256 := fun x hx => by
  rcases List.mem_or_eq_of_mem_set hx with h | h
  · rw [List.eq_of_mem_replicate h]; decide
  · rw [h]; decide
def v0 : Sto := newS (Dk.new 400)
def v1 : Sto := putT v0 7 b5
def v2 : Sto := comT v1
def v3 : Sto := putT v2 7 [1]
def v4 : Sto := undoT v3
theorem len400 : (Dk.new 400).seen.length = 400 := by simp [Dk.new]
theorem many0 : many (Dk.new 400) = 99 := by rw [many, len400]; rfl
theorem h0 : Has v0 [] [] := Has.new (by rw [len400]; decide) (by rw [len400]; decide)
theorem free0 : (Fr.lst v0.S).length = 99 := by
  have := h0.calm (fun p hp => by cases hp)
  rw [show v0.D = Dk.new 400 from rfl, many0] at this
  exact this
theorem put0 : putE v0 7 300 = 0 := putE_zero (by decide) (Or.inl (by decide)) (by rw [free0]; decide)
theorem put0' : putE v0 7 b5.length = 0 := by rw [b5_len]; exact put0
theorem h1 : Has v1 [(7, b5)] [] := h0.put (by decide) put0'
theorem v1_is : v1 = ⟨Ex.wD v0.D (nx v0.epoch) (putL v0 7 b5.length) b5, Fr.sub (dropS v0 (Mp.look v0.now 7)) (putL v0 7 b5.length), v0.epoch, Mp.put v0.now 7 ⟨b5.length, nx v0.epoch, putL v0 7 b5.length, true⟩, v0.kept, v0.table, v0.puts + 1⟩ := by rw [v1, putT, if_pos put0']
theorem many1 : many v1.D = 99 := by
  rw [v1_is]
  exact (many_eq (Ex.wD_len _ _ _ _)).trans many0
theorem free1 : (Fr.lst v1.S).length = 97 := by
  have h := h1.ok.room
  have e1 : v1.table = [] := by rw [v1_is]; rfl
  have e2 : v1.kept = [] := by rw [v1_is]; rfl
  have e3 : v1.now = [(7, ⟨b5.length, nx v0.epoch, putL v0 7 b5.length, true⟩)] := by rw [v1_is]; rfl
  rw [many1, e1, e2, e3] at h
  have e4 : (pgs (List.filter (fun p => p.2.fresh) [((7 : Nat), (⟨b5.length, nx v0.epoch, putL v0 7 b5.length, true⟩ : Th))])).length = 2 := by
    show ((putL v0 7 b5.length) ++ []).length = 2
    rw [List.append_nil, putL_length put0', b5_len]
    rfl
  rw [e4] at h
  simp only [List.length_nil, pgs, List.flatMap_nil] at h
  omega
theorem tab1 : Ex.pages (tabN [(7, b5)]) = 1 := by
  rw [tabN, takes]
  simp only [List.map_cons, List.map_nil, b5_len]
  rfl
theorem take1 : takes [(7, b5)] = 2 := by
  rw [takes]
  simp only [List.map_cons, List.map_nil, b5_len]
  rfl
theorem full1 : comF v1 := h1.com_full (by rw [tab1]; decide) (by rw [tab1, free1]; decide)
theorem root1 : Rt.At v1.D v1.epoch := h0.root_put (root_new (by decide)) 7 b5
theorem epoch1 : v1.epoch = 0 := by rw [v1_is]; rfl
theorem com1 : comE v1 = 0 ∧ Rt.At v2.D v2.epoch ∧ v2.epoch = v1.epoch + 1 ∧ v2.table.length = Ex.pages (tabN [(7, b5)]) + 1 ∧ (∀ p ∈ v2.now, p.2.fresh = false) ∧ v2.puts = 64 := h1.com_yes root1 full1 (by rw [epoch1]; decide)
theorem h2 : Has v2 [(7, b5)] [(7, b5)] := h1.com com1.1
theorem epoch2 : v2.epoch = 1 := by rw [com1.2.2.1, epoch1]
theorem many2 : many v2.D = 99 := by
  have e : v2.D.seen.length = v1.D.seen.length := by
    have hr : Rt.wE (comD2 v1) (comR v1) = 0 := by have := com1.1; rw [comE, if_pos full1] at this; exact this
    rw [v2, comT, if_pos full1, if_pos hr]
    show (Rt.wD _ _).seen.length = _
    rw [wD_root_len, comD2_len]
  rw [many_eq e, many1]
theorem free2 : (Fr.lst v2.S).length = 95 := by
  have h := h2.calm com1.2.2.2.2.1
  rw [com1.2.2.2.1, tab1, take1, many2] at h
  omega
theorem put2 : putE v2 7 1 = 0 := putE_zero (by decide) (Or.inr (by rw [h2.now.ids]; rfl)) (by rw [free2]; decide)
theorem h3 : Has v3 (Mp.put [(7, b5)] 7 [1]) [(7, b5)] := h2.put (by decide) put2
theorem h4 : Has v4 [(7, b5)] [(7, b5)] := h3.undo
theorem get4 : getE v4 7 = 0 ∧ getB v4 7 = b5 := h4.get rfl
theorem get8 : getE v4 8 = 7 ∧ getB v4 8 = [] := h4.get_no rfl
theorem w0' : v0.D.waits.length = 0 := rfl
theorem w1' : v1.D.waits.length ≤ 8 := by
  have := waits_put v0 7 b5
  rw [b5_len, w0'] at this
  exact this
theorem w2' : v2.D.waits.length = 0 := waits_com v1 com1.1
theorem p0 : v0.puts = 64 := rfl
theorem p2 : v2.puts = 64 := com1.2.2.2.2.2
end Sh
theorem shOpened (w : World) (n : Nat) (h1 : 32 ≤ n) (h2 : n ≤ 16384) : Calls Tryz.prog 17 #[.int .i64 (n : Nat)] w fun e w' => ∃ d s f, e = .returned (.tuple #[.pointer (some ⟨d, 0, none⟩), .pointer (some ⟨s, 0, none⟩)]) ∧ Sg true w w' s d f (Sh.newS (Dk.new n)) [] := by
  have hlen : (Dk.new n).seen.length = n := by simp [Dk.new]
  have Hlen := Lib.hid hlen
  have Hroot : Hid (Rt.findE (Dk.new n) = 7) := Rt.new_no (by omega)
  clear hlen
  go_enter Tryz.func17, Tryz.ntmps17
  go_wp2_with fail
  refine (new_k w n (by omega) h2).mono ?_
  rintro e w1 ⟨d, rfl, hm⟩
  have S1 : Hid (Dd w w1 d (Dk.new n) []) := Sl.push (Sl.nil (Touch.refl No w)) (born_disk hm)
  clear hm
  go_wp2_with fail
  refine (shOpen_new S1.out (by rw [Hlen.out]; exact h1) (by rw [Hlen.out]; exact h2) Hroot.out).mono ?_
  rintro e w2 ⟨s, f, rfl, s2⟩
  have S2 := Lib.hid s2
  clear s2 S1
  go_wp2
  go_ret2
  exact ⟨d, s, f, rfl, S2.out⟩
end Go.Proofs.YtpmkegbgbldpnaaGreatDoor
namespace Go.Proofs.YtpmkegbgbldpnaaGreatDoor
open Go Go.RowKit
set_option linter.unusedSimpArgs false
set_option linter.unusedVariables false
theorem Sh.putT_epoch (T : Sh.Sto) (id : Nat) (b : List Nat) : (Sh.putT T id b).epoch = T.epoch := by
  unfold Sh.putT; split <;> rfl
theorem Sh.undoT_epoch (T : Sh.Sto) : (Sh.undoT T).epoch = T.epoch := rfl
theorem Sh.epoch4 : Sh.v4.epoch = 1 := (Sh.undoT_epoch Sh.v3).trans ((Sh.putT_epoch Sh.v2 7 [1]).trans Sh.epoch2)
theorem sh_z300 : (z300.setIfInBounds 0 (.int .u8 5)).toList = nums .u8 Sh.b5 := by
  rw [Array.toList_setIfInBounds]
  show (List.replicate 300 (Value.int .u8 0)).set 0 (.int .u8 5) = List.map _ ((List.replicate 300 0).set 0 5)
  rw [List.map_set, List.map_replicate]
  rfl
set_option maxRecDepth 100000 in
set_option maxHeartbeats 8000000 in
theorem shLives (w : World) (hTab : TabAt w) : Calls Tryz.prog 11 #[] w (LawPost w) := by
  have hm3 := made300
  have HTab := Lib.hid hTab
  clear hTab
  go_enter Tryz.func11, Tryz.ntmps11
  go_wp2_with fail
  refine (shOpened w 400 (by decide) (by decide)).mono ?_
  rintro e w1 ⟨d, s, f1, rfl, s1⟩
  have S1 : Hid (Sg true w w1 s d f1 Sh.v0 []) := s1
  clear s1
  have hk : (w1.alloc (.cells z300 5)).cell? ⟨w1.heap.size, 0, none⟩ = some (.int .u8 0) := by rw [cell_new]; rfl
  have hf : (w1.alloc (.cells z300 5)).frozen? ⟨w1.heap.size, 0, none⟩ = false := frozen_new _ _ _ _
  go_wp2_with fail
  obtain ⟨w2, hw2⟩ : ∃ w2, w2 = w1.alloc (.cells (z300.setIfInBounds 0 (.int .u8 5)) 5) := ⟨_, rfl⟩
  obtain ⟨B, hB⟩ : ∃ B, B = w1.heap.size := ⟨_, rfl⟩
  have S2 : Hid (Sg true w w2 s d f1 Sh.v0 [Part.row B 5 (nums .u8 Sh.b5)]) := by
    show Sg _ _ _ _ _ _ _ _
    rw [hw2, hB, ← sh_z300]
    exact Dd.perm (Dd.push S1.out (Born.row w1 5 (z300.setIfInBounds 0 (.int .u8 5)))) (by
      refine (List.Perm.swap _ _ _).trans ((List.Perm.swap _ _ _).cons _))
  rw [← hw2, ← hB]
  clear hw2 hB hk hf hm3 S1
  have C2 := Lib.hid (Ss.freeC S2.out)
  refine C2.out.mono ?_
  rintro e w' ⟨rfl, rfl⟩
  rw [Sh.free0]
  have C3 : Hid (Calls Tryz.prog 14 #[.pointer (some ⟨s, 0, none⟩), .int .u32 7, .slice (some ⟨B, 0, none⟩) 300 300] w2 fun e w' => e = .returned (.int .i64 0) ∧ Sg true w w' s d f1 Sh.v1 [Part.row B 5 (nums .u8 Sh.b5)]) := by
    have := Ss.put S2.out Sh.h0.ok HTab.out 7 (by decide) (some ⟨B, 0, none⟩) 300 300 Sh.b5 Sh.b5_len (by decide) (by decide) (Or.inr (Or.inr (Or.inl ⟨B, _, rfl, List.mem_cons_self⟩))) Sh.b5_lt (by rw [Sh.w0']; decide) (by rw [Sh.p0]; decide)
    rw [Sh.put0] at this
    exact this
  clear C2 S2
  go_wp2_with fail
  refine C3.out.mono ?_
  rintro e w3 ⟨rfl, s3⟩
  have S3 := Lib.hid s3
  clear s3 C3
  go_wp2_with fail
  refine (Ss.freeC S3.out).mono ?_
  rintro e w' ⟨rfl, rfl⟩
  rw [Sh.free1]
  have C4 : Hid (Calls Tryz.prog 16 #[.pointer (some ⟨s, 0, none⟩)] w3 fun e w' => e = .returned (.int .i64 0) ∧ ∃ f', Sg true w w' s d f' Sh.v2 [Part.row B 5 (nums .u8 Sh.b5)]) := by
    have := Ss.commit S3.out Sh.h1.ok HTab.out (by have := Sh.w1'; omega)
    rw [Sh.com1.1] at this
    exact this
  clear S3
  go_wp2_with fail
  refine C4.out.mono ?_
  rintro e w4 ⟨rfl, f2, s4⟩
  have S4 := Lib.hid s4
  clear s4 C4
  go_wp2_with fail
  refine (Ss.freeC S4.out).mono ?_
  rintro e w' ⟨rfl, rfl⟩
  rw [Sh.free2]
  go_wp2_with fail
  obtain ⟨w5, hw5⟩ : ∃ w5, w5 = w4.alloc (.cells #[.int .u8 1] 5) := ⟨_, rfl⟩
  obtain ⟨G, hG⟩ : ∃ G, G = w4.heap.size := ⟨_, rfl⟩
  have S5 : Hid (Sg true w w5 s d f2 Sh.v2 [Part.row G 5 (nums .u8 [1])]) := by
    show Sg _ _ _ _ _ _ _ _
    rw [hw5, hG]
    have h1 : Sg true w w4 s d f2 Sh.v2 [] := S4.out.drop
    exact Dd.perm (Dd.push h1 (Born.row w4 5 #[.int .u8 1])) ((List.Perm.swap _ _ _).trans ((List.Perm.swap _ _ _).cons _))
  rw [← hw5, ← hG]
  have C6 : Hid (Calls Tryz.prog 14 #[.pointer (some ⟨s, 0, none⟩), .int .u32 7, .slice (some ⟨G, 0, none⟩) 1 1] w5 fun e w' => e = .returned (.int .i64 0) ∧ Sg true w w' s d f2 Sh.v3 [Part.row G 5 (nums .u8 [1])]) := by
    have := Ss.put S5.out Sh.h2.ok HTab.out 7 (by decide) (some ⟨G, 0, none⟩) 1 1 [1] rfl (by decide) (by decide) (Or.inr (Or.inr (Or.inl ⟨G, _, rfl, List.mem_cons_self⟩))) (by decide) (by rw [Sh.w2']; decide) (by rw [Sh.p2]; decide)
    rw [Sh.put2] at this
    exact this
  clear hw5 hG S4 S5
  refine C6.out.mono ?_
  rintro e w6 ⟨rfl, s6⟩
  have C7 : Hid (Calls Tryz.prog 22 #[.pointer (some ⟨s, 0, none⟩)] w6 fun e w' => e = .returned (.int .i64 0) ∧ ∃ f', Sg true w w' s d f' Sh.v4 [Part.row G 5 (nums .u8 [1])]) := Ss.undo s6 Sh.h3.ok
  clear s6 C6
  go_wp2_with fail
  refine C7.out.mono ?_
  rintro e w7 ⟨rfl, f3, s7⟩
  have C8 : Hid (Calls Tryz.prog 15 #[.pointer (some ⟨s, 0, none⟩), .int .u32 7] w7 fun e w' => ∃ b, e = .returned (.tuple #[.slice b 300 300, .int .i64 0]) ∧ Sg true w w' s d f3 Sh.v4 (Part.sl 5 b 300 300 (nums .u8 Sh.b5) :: [Part.row G 5 (nums .u8 [1])])) := by
    refine (Ss.get s7 Sh.h4.ok 7 (by decide)).mono ?_
    rintro e w' ⟨b, k, he, hk, h⟩
    rw [Sh.get4.2, Sh.b5_len] at hk
    subst hk
    rw [Sh.get4.1] at he
    rw [Sh.get4.2] at h
    exact ⟨b, he, h⟩
  clear s7 C7
  go_wp2_with fail
  refine C8.out.mono ?_
  rintro e w8 ⟨b, rfl, s8⟩
  have C9 : Hid (Calls Tryz.prog 15 #[.pointer (some ⟨s, 0, none⟩), .int .u32 8] w8 fun e w' => ∃ v, e = .returned (.tuple #[v, .int .i64 7]) ∧ Sg true w w' s d f3 Sh.v4 (Part.sl 5 b 300 300 (nums .u8 Sh.b5) :: [Part.row G 5 (nums .u8 [1])])) := by
    refine (Ss.get s8 Sh.h4.ok 8 (by decide)).mono ?_
    rintro e w' ⟨b, k, he, hk, h⟩
    rw [Sh.get8.1] at he
    exact ⟨_, he, Sg.drop h⟩
  clear s8 C8
  go_wp2_with fail
  refine C9.out.mono ?_
  rintro e w9 ⟨v, rfl, s9⟩
  obtain ⟨gb, go, hb, hc⟩ := (s9.rd List.mem_cons_self).num (i := 0) (by rw [Sh.b5_len]; decide)
  have h5 : Sh.b5.getD 0 0 = 5 := by
    rw [Sh.b5, List.getD_eq_getElem?_getD, List.getElem?_set_self (by rw [List.length_replicate]; decide)]; rfl
  rw [h5] at hc
  subst hb
  have S9 := Lib.hid s9
  have CE : Hid (Calls Tryz.prog 24 #[.pointer (some ⟨s, 0, none⟩)] w9 fun e w' => e = .returned (.int .u32 1) ∧ w9 = w') := by
    have := Ss.epochC s9
    rw [show Sh.v4.epoch = 1 from Sh.epoch4] at this
    exact this
  have hc0 : w9.cell? ⟨gb, go, none⟩ = some (.int .u8 5) := hc
  clear s9 C9 h5 hc
  go_wp2_with fail
  refine (shOpen_nil w9).mono ?_
  rintro e w' ⟨rfl, rfl⟩
  go_wp2_with fail
  refine CE.out.mono ?_
  rintro e w' ⟨rfl, rfl⟩
  go_wp2_with fail
  refine (shCommit_nil w9).mono ?_
  rintro e w' ⟨rfl, rfl⟩
  go_wp2
  go_ret
  exact ⟨rfl, S9.out.end⟩
end Go.Proofs.YtpmkegbgbldpnaaGreatDoor
namespace Go.Proofs.YtpmkegbgbldpnaaGreatDoor
open Go Go.RowKit
set_option linter.unusedSimpArgs false
set_option linter.unusedVariables false
namespace Sh
def bulk (l : List TgDeed) : Nat := (l.map fun x => 500 + x.b.length).sum
theorem bulk_snoc {l : List TgDeed} {k : Nat} (hk : k < l.length) : bulk (l.take (k + 1)) = bulk (l.take k) + (500 + l[k].b.length) := by
  rw [bulk, List.take_add_one, List.getElem?_eq_getElem hk, List.map_append, List.sum_append]
  simp [bulk]
theorem bulk_take (l : List TgDeed) (k : Nat) : bulk (l.take k) ≤ bulk l := by
  conv => rhs; rw [← List.take_append_drop k l]
  rw [bulk, bulk, List.map_append, List.sum_append]
  omega
end Sh
set_option maxRecDepth 100000 in
set_option maxHeartbeats 4000000 in
theorem shFit (w : World) (a : Option Addr) (n c : Nat) (l : List TgDeed) (hl : IsTgDeeds w a l) (hn : l.length = n) (hs : Sh.bulk l ≤ 1000000000000) :
    Calls Tryz.prog 18 #[.slice a n c] w fun e w' => e = .returned (.bool (decide ((Sh.bulk l : Int) ≤ 15000))) ∧ w = w' := by
  have HL := Lib.hid hl
  have HN := Lib.hid hn
  have HS := Lib.hid hs
  have hnb : n ≤ 1000000000000 := by
    have h : l.length ≤ Sh.bulk l := by
      clear hl hn hs HL HN HS
      induction l with
      | nil => exact Nat.zero_le _
      | cons x r ih => simp only [Sh.bulk, List.map_cons, List.sum_cons, List.length_cons] at ih ⊢; omega
    omega
  clear hl hn hs
  go_enter Tryz.func18, Tryz.ntmps18
  go_wp2
  go_loopg [3, 4] n (fun g s3 s4 wr => ∃ k m : Nat, k + g = n ∧ s4 = .int .i64 ((k : Nat) : Int) ∧ s3 = .int .i64 ((m : Nat) : Int) ∧ Hid (Sh.bulk (l.take k) = m) ∧ wr = w)
  case atStart => exact ⟨0, 0, by omega, rfl, rfl, by show Sh.bulk (l.take 0) = 0; rw [List.take_zero]; rfl, rfl⟩
  case round =>
    obtain ⟨k, m, hkn, rfl, rfl, Hm, rfl⟩ := hrel
    have hmb : (m : Int) ≤ 1000000000000 := by have h1 := Hm.out; have h2 := Sh.bulk_take l k; have h3 := HS.out; omega
    cases gk with
    | zero =>
      obtain rfl : k = n := by omega
      have e : l.take k = l := List.take_of_length_le (by rw [HN.out]; exact Nat.le_refl _)
      have Hb : Hid (Sh.bulk l = m) := by have := Hm.out; rw [e] at this; exact this
      clear e
      go_wp2
      go_ret
      exact ⟨by rw [Hb.out]; rfl, rfl⟩
    | succ g =>
      have hki : (k : Int) < (n : Nat) := by omega
      have hkl : k < l.length := by rw [HN.out]; omega
      have hsn := Sh.bulk_snoc hkl
      obtain ⟨x, hx⟩ : ∃ x, l[k] = x := ⟨_, rfl⟩
      rw [hx] at hsn
      obtain ⟨g0, o0, ha, hA⟩ := HL.out k x (by rw [List.getElem?_eq_getElem hkl, hx])
      subst ha
      obtain ⟨id, b, ba, bc⟩ := x
      obtain ⟨nb, hnb2⟩ : ∃ nb, b.length = nb := ⟨_, rfl⟩
      have hc : wr.cell? ⟨g0, o0 + k * 2 + 1, none⟩ = some (.slice ba nb bc) := by have := hA.cell 1 (by decide); rw [this, ← hnb2]; rfl
      have Hm2 : Hid (Sh.bulk (l.take (k + 1)) = m + 500 + nb) := by show _ = _; rw [hsn, Hm.out, ← hnb2]; show _ + (500 + b.length) = _; omega
      have hmb2 : (m : Int) + 500 + nb ≤ 1000000000000 := by have h1 := Hm2.out; have h2 := Sh.bulk_take l (k + 1); have h3 := HS.out; omega
      clear hsn hx hkl hnb2 hA
      go_wp2
      go_roundg g
      case measure => omega
      case rel => exact ⟨k + 1, m + 500 + nb, by omega, by go_num, by go_num, Hm2.out, rfl⟩
end Go.Proofs.YtpmkegbgbldpnaaGreatDoor
namespace Go.Proofs.YtpmkegbgbldpnaaGreatDoor
open Go.ChangeShapes Go.WideShapes Go.ChangeAt Go.RowKit
set_option linter.unusedSimpArgs false
set_option linter.unusedVariables false
theorem bulk_one {H : Type} (d : DataW H) : 1 ≤ Rows.uptoBulk d := by
  cases d with
  | lit l => cases l <;> simp [Rows.uptoBulk]
  | nil => simp [Rows.uptoBulk]
  | ptr d => simp [Rows.uptoBulk]
  | slice elems spare => simp [Rows.uptoBulk]
  | agg parts => simp [Rows.uptoBulk]
  | iface t d => simp [Rows.uptoBulk]
  | map entries => simp [Rows.uptoBulk]
  | held h => simp [Rows.uptoBulk]
theorem bulk_len {H : Type} (l : List (DataW H)) : l.length ≤ Rows.uptoBulkAll l := by
  induction l with
  | nil => simp [Rows.uptoBulkAll]
  | cons x r ih => have := bulk_one x; simp only [Rows.uptoBulkAll, List.length_cons]; omega
theorem bulk_part {H : Type} {d : DataW H} {l : List (DataW H)} (h : d ∈ l) : Rows.uptoBulk d ≤ Rows.uptoBulkAll l := by
  induction l with
  | nil => cases h
  | cons x r ih =>
    simp only [Rows.uptoBulkAll]
    rcases List.mem_cons.1 h with e | e
    · subst e; omega
    · have := ih e; omega
section
variable {H : Type} {enc : TypeId × Value → H} {w : World}
/-- a slice is as long as its reading is great -/
theorem bulk_slice {t e : TypeId} {fuel : Nat} {cs : List Value} {x : DataW H × List MemPlace} (ht : Tryz.prog.underlying t = some (.slice e)) (h : DataW.trod enc Tryz.prog w 0 (fun _ => true) true fuel t cs = some x)
    {a : Option Addr} {n cap : Nat} (hc : cs = [.slice a n cap]) : n + 1 ≤ Rows.uptoBulk x.1 := by
  subst hc
  rcases DataW.trod_slice ht h with ⟨hh, rfl⟩ | ⟨a', len, cap', elems, rest, m, rfl, hh, rfl, hb, hl, hm, hlen, hel, _, _⟩
  · simp only [List.cons.injEq, Value.slice.injEq, and_true] at hh
    obtain ⟨_, rfl, _⟩ := hh
    simp [Rows.uptoBulk]
  · simp only [List.cons.injEq, Value.slice.injEq, and_true] at hh
    obtain ⟨_, rfl, _⟩ := hh
    have := bulk_len (elems.map (·.1))
    rw [List.length_map] at this
    simp only [Rows.uptoBulk]
    omega
set_option maxRecDepth 100000 in
theorem bulk_thing {fuel : Nat} {cs : List Value} {x : DataW H × List MemPlace} {c o : Nat} {d : TgDeed} (hc : ∀ j, j < 2 → w.cell? ⟨c, o + j, none⟩ = cs[j]?)
    (h : DataW.trod enc Tryz.prog w 0 (fun _ => true) true fuel 49 cs = some x) (hd : TgDeedAt w c o d) : d.b.length + 3 ≤ Rows.uptoBulk x.1 := by
  obtain ⟨xs, n, rfl, rfl, hlen, hxs, hf⟩ := DataW.trod_struct Tryz.underlying49 h
  rw [cells_tg_act] at hlen
  have f1 : DataW.trod enc Tryz.prog w 0 (fun _ => true) true n 22 (List.take (Tryz.prog.cellsOf 22) (List.drop 1 cs)) = xs[1]? := hf 1 _ rfl
  rw [cells_tg_bytes] at f1
  match xs, hxs with
  | [x0, x1], _ =>
  match cs, hlen with
  | [c0, c1], _ =>
    have e1 := (hc 1 (by decide)).symm.trans (hd.cell 1 (by decide))
    have e2 : c1 = .slice d.b_a d.b.length d.b_cap := by simpa [TgDeed.cells] using e1
    have hb := bulk_slice Tryz.underlying22 (show DataW.trod enc Tryz.prog w 0 (fun _ => true) true n 22 [c1] = some x1 from f1) (a := d.b_a) (n := d.b.length) (cap := d.b_cap) (by rw [e2])
    have h0 := bulk_one x0.1
    show _ ≤ Rows.uptoBulk (.agg [x0.1, x1.1])
    simp only [Rows.uptoBulk, Rows.uptoBulkAll]
    omega
theorem bulk_sum {α : Type} : ∀ (l : List α) (m : List (DataW H)) (f : α → Nat), l.length = m.length → (∀ i (h1 : i < l.length) (h2 : i < m.length), f l[i] ≤ Rows.uptoBulk m[i]) → (l.map f).sum ≤ Rows.uptoBulkAll m
  | [], [], f, _, _ => Nat.le_refl _
  | x :: l, y :: m, f, h, hf => by
    simp only [List.map_cons, List.sum_cons, Rows.uptoBulkAll]
    have h0 := hf 0 (Nat.zero_lt_succ _) (Nat.zero_lt_succ _)
    have h1 := bulk_sum l m f (by simpa using h) (fun i h1 h2 => hf (i + 1) (by simpa using h1) (by simpa using h2))
    simp only [List.getElem_cons_zero] at h0
    omega
set_option maxRecDepth 100000 in
/-- a slice of things that came in, with how much it is -/
theorem open_tg_deedsB {fuel : Nat} {cs : List Value} {x : DataW H × List MemPlace}
    (h : DataW.trod enc Tryz.prog w 0 (fun _ => true) true fuel 39 cs = some x) (hz : ∀ n ∈ DataW.weights Tryz.prog 39 x.1, n ≤ reachBytes) :
    ∃ ad n cap acts, cs = [.slice ad n cap] ∧ acts.length = n ∧ IsTgDeeds w ad acts ∧ (acts.map fun d => d.b.length + 3).sum ≤ Rows.uptoBulk x.1 := by
  rcases DataW.trod_slice Tryz.underlying39 h with ⟨rfl, rfl⟩ | ⟨a, len, cap, elems, rest, n, rfl, rfl, rfl, hb, hl, hm, hlen, hel, _, _⟩
  · exact ⟨none, 0, 0, [], rfl, rfl, fun i x hx => by simp at hx, Nat.zero_le _⟩
  · rw [cells_tg_act] at hel
    have each : ∀ i, i < len → ∃ d : TgDeed, (a = ⟨a.block, a.off, none⟩ ∧ TgDeedAt w a.block (a.off + i * 2) d) ∧ ∀ (hi : i < elems.length), d.b.length + 3 ≤ Rows.uptoBulk elems[i].1 := by
      intro i hi
      have h1 := hel i hi
      rw [List.getElem?_eq_getElem (by omega)] at h1
      obtain ⟨cs, hcs, htr⟩ := Option.bind_eq_some_iff.1 h1
      have hsp0 : a = ⟨a.block, a.off, none⟩ := by
        have h0 := hel 0 (by omega)
        rw [List.getElem?_eq_getElem (by omega)] at h0
        obtain ⟨cs0, hcs0, _⟩ := Option.bind_eq_some_iff.1 h0
        have := (cells_elem hcs0 (by decide)).2.1
        simpa [Addr.add] using this
      have hadd : a.add (i * 2) = ⟨a.block, a.off + i * 2, none⟩ := by rw [hsp0, add_plain]
      rw [hadd] at hcs
      obtain ⟨_, _, hcell⟩ := cells_elem hcs (by decide)
      obtain ⟨d, hd⟩ := open_tg_deed hcell htr (fun m hm' => hz m (by
        have hw : ∀ (l : List (DataW H × List MemPlace)) (y : DataW H × List MemPlace), y ∈ l → m ∈ DataW.weights Tryz.prog 49 y.1 → m ∈ DataW.weightsAll Tryz.prog 49 (l.map (·.1)) := by
          intro l
          induction l with
          | nil => intro y hy; cases hy
          | cons z l ih =>
            intro y hy hm2
            simp only [List.map_cons, DataW.weightsAll, List.mem_append]
            rcases List.mem_cons.1 hy with rfl | hy
            · exact Or.inl hm2
            · exact Or.inr (ih y hy hm2)
        simp only [DataW.weights, Tryz.underlying39, List.mem_cons, List.mem_append]
        exact Or.inr (Or.inl (hw elems _ (List.getElem_mem _) hm'))))
      exact ⟨d, ⟨hsp0, hd⟩, fun hi => bulk_thing hcell htr hd⟩
    obtain ⟨acts, hacts, hq⟩ := list_choose len each
    refine ⟨some a, len, cap, acts, rfl, hacts, fun i d hd => ?_, ?_⟩
    · obtain ⟨⟨e, hd'⟩, _⟩ := hq i d hd
      exact ⟨a.block, a.off, by rw [← e], hd'⟩
    · have hs := bulk_sum acts (elems.map (·.1)) (fun d => d.b.length + 3) (by rw [hacts, List.length_map, hlen]) (fun i h1 h2 => by
        have := (hq i acts[i] (List.getElem?_eq_getElem h1)).2 (by rw [List.length_map] at h2; exact h2)
        simpa using this)
      simp only [Rows.uptoBulk]
      omega
end
theorem bulk_of_sum (l : List TgDeed) : Sh.bulk l ≤ 500 * (l.map fun d => d.b.length + 3).sum := by
  induction l with
  | nil => exact Nat.le_refl _
  | cons x r ih =>
    have e : Sh.bulk (x :: r) = 500 + x.b.length + Sh.bulk r := by simp [Sh.bulk]
    rw [e, List.map_cons, List.sum_cons]
    omega
end Go.Proofs.YtpmkegbgbldpnaaGreatDoor
