/-
  What a disk's store says when it is opened: plain.
  Layer 18's law: things that are put.
  Layer 18's law: things that are put, plain.
  Layer 18's law: what has asks, plain.
  Layer 18's laws: what is put, committed, gone and undone, plain.
-/
import Derived.Test.YtpmkegbgbldpnaaGreatDoorK45
import Derived.Test.YtpmkegbgbldpnaaGreatDoorK44
namespace Go.Proofs.YtpmkegbgbldpnaaGreatDoor
set_option maxRecDepth 100000
open Go Go.RowKit
set_option linter.unusedSimpArgs false
set_option linter.unusedVariables false
namespace Pg
theorem rB_le (D : Dk.Disk) (p : Nat) : (rB D p).length ≤ 240 := by
  unfold rB bodyOf
  split
  · split
    · rename_i h
      have hf : form (rd D p 4) := by
        unfold err at h
        by_cases hf : form (rd D p 4)
        · exact hf
        · rw [if_neg hf] at h; cases h
      rw [body, List.length_take]
      exact Nat.le_trans (Nat.min_le_left _ _) hf.2.1
    · exact Nat.zero_le _
  · exact Nat.zero_le _
theorem rd_lt {D : Dk.Disk} (h : Dk.Ok D) (p : Nat) : ∀ k, ∀ x ∈ rd D p k, x < 256
  | 0, x, hx => by cases hx
  | k + 1, x, hx => by
    rcases List.mem_append.1 hx with hx | hx
    · exact rd_lt h p k x hx
    · unfold Dk.bytesOf at hx
      split at hx
      · cases hx
      · unfold Dk.at_ at hx
        rw [List.getD_eq_getElem?_getD] at hx
        by_cases hl : 4 * p + k < D.seen.length
        · rw [List.getElem?_eq_getElem hl] at hx
          exact (h.seen _ (List.getElem_mem hl)).b.lt x hx
        · rw [List.getElem?_eq_none (by omega)] at hx
          have h0 : x ∈ (Dk.noughts).b := hx
          simp only [Dk.noughts] at h0
          rw [List.eq_of_mem_replicate h0]; decide
theorem rB_lt {D : Dk.Disk} (h : Dk.Ok D) (p : Nat) : ∀ x ∈ rB D p, x < 256 := fun x hx => by
  unfold rB bodyOf at hx
  split at hx
  · split at hx
    · exact rd_lt h p 4 x (List.mem_of_mem_drop (List.mem_of_mem_take hx))
    · cases hx
  · cases hx
end Pg
theorem Dk.at_lt {D : Dk.Disk} (h : Dk.Ok D) (n : Nat) : ∀ x ∈ (Dk.at_ D.seen n).b, x < 256 := fun x hx => by
  unfold Dk.at_ at hx
  rw [List.getD_eq_getElem?_getD] at hx
  by_cases hl : n < D.seen.length
  · rw [List.getElem?_eq_getElem hl] at hx
    exact (h.seen _ (List.getElem_mem hl)).b.lt x hx
  · rw [List.getElem?_eq_none (by omega)] at hx
    have h0 : x ∈ (Dk.noughts).b := hx
    simp only [Dk.noughts] at h0
    rw [List.eq_of_mem_replicate h0]; decide
theorem Rt.find_ok {D : Dk.Disk} (h : Dk.Ok D) : (Rt.findR D).Ok := by
  unfold Rt.findR
  split
  · split
    · exact Rt.say_ok (Dk.at_lt h 1)
    · exact Rt.say_ok (Dk.at_lt h 0)
  · exact ⟨by decide, by decide, by decide⟩
namespace Ex
theorem rdB_lt {D : Dk.Disk} (h : Dk.Ok D) (nums : List Nat) : ∀ k, ∀ x ∈ rdB D nums k, x < 256
  | 0, x, hx => by cases hx
  | k + 1, x, hx => by
    rcases List.mem_append.1 hx with hx | hx
    · exact rdB_lt h nums k x hx
    · exact Pg.rB_lt h _ x hx
theorem rB_lt {D : Dk.Disk} (h : Dk.Ok D) (ep : Nat) (nums : List Nat) (n : Nat) : ∀ x ∈ rB D ep nums n, x < 256 := fun x hx => by
  unfold rB at hx
  split at hx
  · exact rdB_lt h nums _ x hx
  · cases hx
theorem rdB_le (D : Dk.Disk) (nums : List Nat) : ∀ k, (rdB D nums k).length ≤ 240 * k
  | 0 => Nat.le_refl _
  | k + 1 => by
    rw [rdB, List.length_append]
    have := rdB_le D nums k
    have := Pg.rB_le D (at' nums k)
    omega
theorem rB_le {D : Dk.Disk} {ep : Nat} {nums : List Nat} {n : Nat} (h : nums.length ≤ 60) : (rB D ep nums n).length ≤ 14400 := by
  unfold rB
  split
  · rename_i h0
    have hM : may D nums n := by
      unfold rE at h0
      by_cases hM : may D nums n
      · exact hM
      · rw [if_neg hM] at h0; cases h0
    have := rdB_le D nums (pages n)
    have := hM.2.2
    omega
  · exact Nat.zero_le _
end Ex
namespace Sh
/-- so it is read: an error, or a store (what there is now is not made yet) -/
def readsP (D : Dk.Disk) : Except Nat Sto :=
  if Rt.findE D = 7 then .ok ⟨D, upTo 1 (1 + many D), 0, [], [], [], 0⟩
  else if Rt.findE D ≠ 0 then .error (Rt.findE D)
  else if (Rt.findR D).first < 1 ∨ many D < (Rt.findR D).first then .error 4
  else if Pg.rE D (Rt.findR D).first ≠ 0 then .error (Pg.rE D (Rt.findR D).first)
  else if Pg.rN D (Rt.findR D).first ≠ (Rt.findR D).epoch ∨ (Pg.rB D (Rt.findR D).first).length % 4 ≠ 0 ∨ (Pg.rB D (Rt.findR D).first).length / 4 ≠ Ex.pages (Rt.findR D).bytes then .error 4
  else if marks (upTo 1 (1 + many D)) ((Rt.findR D).first :: nums (Pg.rB D (Rt.findR D).first) ((Pg.rB D (Rt.findR D).first).length / 4)) = false then .error 4
  else if Ex.rE D (Rt.findR D).epoch (nums (Pg.rB D (Rt.findR D).first) ((Pg.rB D (Rt.findR D).first).length / 4)) (Rt.findR D).bytes ≠ 0 then .error (Ex.rE D (Rt.findR D).epoch (nums (Pg.rB D (Rt.findR D).first) ((Pg.rB D (Rt.findR D).first).length / 4)) (Rt.findR D).bytes)
  else match rowsP (Rt.findR D).epoch (Ex.rB D (Rt.findR D).epoch (nums (Pg.rB D (Rt.findR D).first) ((Pg.rB D (Rt.findR D).first).length / 4)) (Rt.findR D).bytes) (-1) (Fr.sub (upTo 1 (1 + many D)) ((Rt.findR D).first :: nums (Pg.rB D (Rt.findR D).first) ((Pg.rB D (Rt.findR D).first).length / 4))) [] with
    | none => .error 4
    | some (S, k) => if 64 < k.length then .error 4 else .ok ⟨D, S, (Rt.findR D).epoch, [], k, (Rt.findR D).first :: nums (Pg.rB D (Rt.findR D).first) ((Pg.rB D (Rt.findR D).first).length / 4), 0⟩
end Sh
end Go.Proofs.YtpmkegbgbldpnaaGreatDoor
namespace Go.Proofs.YtpmkegbgbldpnaaGreatDoor
open Go Go.RowKit
set_option linter.unusedSimpArgs false
set_option linter.unusedVariables false
namespace Sh
def putAll (T : Sto) (l : List TgDeed) : Sto := l.foldl (fun T x => putT T x.id x.b) T
theorem putAll_snoc {T : Sto} {l : List TgDeed} {k : Nat} (hk : k < l.length) : putAll T (l.take (k + 1)) = putT (putAll T (l.take k)) l[k].id l[k].b := by
  rw [putAll, List.take_add_one, List.getElem?_eq_getElem hk, List.foldl_append]
  rfl
/-- each is put well -/
def AllPut (T : Sto) (l : List TgDeed) : Prop := ∀ j (hj : j < l.length), Ok (putAll T (l.take j)) ∧ putE (putAll T (l.take j)) l[j].id l[j].b.length = 0 ∧ (putAll T (l.take j)).D.waits.length ≤ 90000 ∧ (putAll T (l.take j)).puts ≤ 1000000
end Sh
/-- the cells of things, where they lie -/
def TgRow (w : World) (ad : Option Addr) (l : List TgDeed) : Prop := ∀ i x, l[i]? = some x → ∃ c o, ad = some ⟨c, o, none⟩ ∧ ∀ j, j < 2 → w.cell? ⟨c, o + i * 2 + j, none⟩ = x.cells[j]?
/-- their bytes are old ones -/
def TgGood (w0 : World) (l : List TgDeed) : Prop := ∀ x ∈ l, x.id < 4294967296 ∧ Rd w0 x.b_a (nums .u8 x.b) ∧ x.b.length ≤ x.b_cap ∧ ∀ y ∈ x.b, y < 256
theorem IsTgDeeds.row {w : World} {ad : Option Addr} {l : List TgDeed} (h : IsTgDeeds w ad l) : TgRow w ad l := fun i x hx => by
  obtain ⟨c, o, e, ha⟩ := h i x hx
  exact ⟨c, o, e, ha.cell⟩
theorem IsTgDeeds.good {w : World} {ad : Option Addr} {l : List TgDeed} (h : IsTgDeeds w ad l) : TgGood w l := fun x hx => by
  obtain ⟨i, hi, e⟩ := List.mem_iff_getElem.1 hx
  obtain ⟨c, o, _, ha⟩ := h i x (by rw [List.getElem?_eq_getElem hi, e])
  exact ⟨ha.id_lt, ha.b_rd, ha.b_le, ha.b_each⟩
theorem TgGood.touch {w w' : World} {l : List TgDeed} (h : TgGood w l) (t : Touch No w w') : TgGood w' l := fun x hx => ⟨(h x hx).1, (h x hx).2.1.no t, (h x hx).2.2⟩
/-- wherever a store stands among these, things lie so -/
def TgAny (w0 : World) (s d : Nat) (E : List Part) (a : Option Addr) (l : List TgDeed) : Prop := ∀ w' f' T', Sg true w0 w' s d f' T' E → TgRow w' a l
theorem IsTgDeeds.any {w0 : World} {s d : Nat} {E : List Part} {ad : Option Addr} {l : List TgDeed} (h : IsTgDeeds w0 ad l) : TgAny w0 s d E ad l := fun _ _ _ hs => (h.touch hs.end).row
section
variable {w0 w w' : World} {s d f : Nat} {T : Sh.Sto} {E : List Part}
set_option maxRecDepth 100000 in
set_option maxHeartbeats 4000000 in
theorem shPutAll (h : Sg true w0 w s d f T E) (hTab : TabAt w0) (a : Option Addr) (n c : Nat) (l : List TgDeed) (hl : TgAny w0 s d E a l) (hg : TgGood w0 l) (hn : l.length = n) (hnm : (n : Int) ≤ 1000000000000) (hP : Sh.AllPut T l) :
    Calls Tryz.prog 19 #[.pointer (some ⟨s, 0, none⟩), .slice a n c] w fun e w' => e = .returned (.bool true) ∧ Sg true w0 w' s d f (Sh.putAll T l) E := by
  have H := Lib.hid h
  have HL := Lib.hid hl
  have HG := Lib.hid hg
  have HN := Lib.hid hn
  have HT := Lib.hid hTab
  have HP := Lib.hid hP
  clear h hl hg hn hTab hP
  go_enter Tryz.func19, Tryz.ntmps19
  go_wp2
  go_loopg [5] n (fun g s5 wr => ∃ k : Nat, k + g = n ∧ s5 = .int .i64 ((k : Nat) : Int) ∧ Hid (Sg true w0 wr s d f (Sh.putAll T (l.take k)) E))
  case atStart => exact ⟨0, by omega, rfl, by show Sg _ _ _ _ _ _ _ _; rw [List.take_zero]; exact H.out⟩
  case round =>
    clear H
    obtain ⟨k, hkn, rfl, HS⟩ := hrel
    cases gk with
    | zero =>
      obtain rfl : k = n := by omega
      have e : l.take k = l := List.take_of_length_le (by rw [HN.out]; exact Nat.le_refl _)
      have S1 : Hid (Sg true w0 wr s d f (Sh.putAll T l) E) := by have := HS.out; rw [e] at this; exact this
      clear e HS
      go_wp2
      go_ret
      exact ⟨rfl, S1.out⟩
    | succ g =>
      have hki : (k : Int) < (n : Nat) := by omega
      have hkl : k < l.length := by rw [HN.out]; omega
      have hsn := Sh.putAll_snoc (T := T) hkl
      obtain ⟨hO, hE, hW, hU⟩ := HP.out k hkl
      obtain ⟨x, hx⟩ : ∃ x, l[k] = x := ⟨_, rfl⟩
      rw [hx] at hsn hE
      obtain ⟨g0, o0, ha, hA⟩ := HL.out _ _ _ HS.out k x (by rw [List.getElem?_eq_getElem hkl, hx])
      have hGx := HG.out x (by rw [← hx]; exact List.getElem_mem hkl)
      subst ha
      have hAn : ∀ w' f' T', Sg true w0 w' s d f' T' E → ∀ j, j < 2 → w'.cell? ⟨g0, o0 + k * 2 + j, none⟩ = x.cells[j]? := fun w' f' T' h => by
        obtain ⟨c, o, e, hc⟩ := HL.out _ _ _ h k x (by rw [List.getElem?_eq_getElem hkl, hx])
        simp only [Option.some.injEq, Addr.mk.injEq, and_true] at e
        obtain ⟨rfl, rfl⟩ := e
        exact hc
      have S1 := Lib.hid (Sg.no HS.out (Touch.refl No wr).drew)
      have CP := Lib.hid (Ss.put S1.out hO HT.out x.id hGx.1 x.b_a x.b.length x.b_cap x.b rfl hGx.2.2.1 (by have := (Sh.putE_ok hE).1; omega) (Or.inl hGx.2.1) hGx.2.2.2 hW hU)
      rw [hE, ← hsn] at CP
      have c0 : wr.cell? ⟨g0, o0 + k * 2, none⟩ = some (.int .u32 (x.id : Nat)) := hA 0 (by decide)
      have c1 : wr.cell? ⟨g0, o0 + k * 2 + 1, none⟩ = some (.slice x.b_a x.b.length x.b_cap) := hA 1 (by decide)
      have hS : wr.cell? ⟨g0, o0 + k * 2, none⟩ = some (.int .u32 (x.id : Nat)) ∧ wr.cell? ⟨g0, o0 + k * 2 + 1, none⟩ = some (.slice x.b_a x.b.length x.b_cap) := ⟨c0, c1⟩
      have HA0 := Lib.hid hAn
      clear hO hE hW hU hsn hx hkl hA hAn hGx
      go_wp2_with fail
      go_region_held3 (fun w' => w'.cell? ⟨g0, o0 + k * 2, none⟩ = some (.int .u32 (x.id : Nat)) ∧ w'.cell? ⟨g0, o0 + k * 2 + 1, none⟩ = some (.slice x.b_a x.b.length x.b_cap)) (first | exact hS | exact ⟨HA0.out _ _ _ S1.out 0 (by decide), HA0.out _ _ _ S1.out 1 (by decide)⟩ | exact ⟨HA0.out _ _ _ s5 0 (by decide), HA0.out _ _ _ s5 1 (by decide)⟩) (first
        | (go_at_call 14; refine CP.out.mono ?_; rintro e w5 ⟨rfl, s5⟩))
      all_goals
        have S5 := Lib.hid s5
        clear s5 S1 CP c0 c1 hS HS HA0
        go_wp2
        go_roundg g
        case measure => omega
        case rel => exact ⟨k + 1, by omega, by go_num, S5.out⟩
end
end Go.Proofs.YtpmkegbgbldpnaaGreatDoor
namespace Go.Proofs.YtpmkegbgbldpnaaGreatDoor
set_option maxRecDepth 100000
open Go Go.RowKit
set_option linter.unusedSimpArgs false
set_option linter.unusedVariables false
namespace Sh
def putC (c : List (Nat × List Nat)) (l : List TgDeed) : List (Nat × List Nat) := l.foldl (fun c x => Mp.put c x.id x.b) c
def pgSum (l : List TgDeed) : Nat := (l.map fun x => Ex.pages x.b.length).sum
theorem putT_table (T : Sto) (id : Nat) (b : List Nat) : (putT T id b).table = T.table := by unfold putT; split <;> rfl
theorem putT_many (T : Sto) (id : Nat) (b : List Nat) : many (putT T id b).D = many T.D := by
  unfold putT; split
  · exact many_eq (Ex.wD_len _ _ _ _)
  · rfl
theorem putT_ep (T : Sto) (id : Nat) (b : List Nat) : (putT T id b).epoch = T.epoch := by unfold putT; split <;> rfl
theorem putT_puts (T : Sto) (id : Nat) (b : List Nat) : (putT T id b).puts ≤ T.puts + 1 := by
  unfold putT; split
  · exact Nat.le_refl _
  · omega
theorem putAll_is {T : Sto} {c k : List (Nat × List Nat)} (l : List TgDeed) (h : Has T c k) (hr : Rt.At T.D T.epoch) (hid : ∀ x ∈ l, x.id < 4294967296 ∧ x.b.length ≤ 65536)
    (hroom : T.table.length + takes k + takes c + pgSum l ≤ many T.D) (hcount : c.length + l.length ≤ 64) (hw : T.D.waits.length + 4 * pgSum l ≤ 90000) (hp : T.puts + l.length ≤ 1000000) :
    AllPut T l ∧ Has (putAll T l) (putC c l) k ∧ Rt.At (putAll T l).D (putAll T l).epoch ∧ (putAll T l).table = T.table ∧ many (putAll T l).D = many T.D ∧ (putAll T l).epoch = T.epoch ∧ (putAll T l).D.waits.length ≤ T.D.waits.length + 4 * pgSum l ∧ (putAll T l).puts ≤ T.puts + l.length ∧ takes (putC c l) ≤ takes c + pgSum l ∧ (putC c l).length ≤ c.length + l.length := by
  induction l generalizing T c with
  | nil => exact ⟨fun j hj => absurd hj (Nat.not_lt_zero _), h, hr, rfl, rfl, rfl, Nat.le_add_right _ _, Nat.le_refl _, Nat.le_add_right _ _, Nat.le_refl _⟩
  | cons x r ih =>
    have hx := hid x List.mem_cons_self
    have hs : pgSum (x :: r) = Ex.pages x.b.length + pgSum r := by simp [pgSum]
    rw [hs] at hroom hw
    rw [List.length_cons] at hcount hp
    have hfree := h.room
    have he : putE T x.id x.b.length = 0 := putE_zero hx.2 (Or.inl (by rw [h.len]; omega)) (by omega)
    have h1 := h.put hx.1 he
    have e1 := putT_table T x.id x.b
    have e2 := putT_many T x.id x.b
    have e3 := putT_ep T x.id x.b
    have e4 := waits_put T x.id x.b
    have e5 := putT_puts T x.id x.b
    have e6 := takes_put_le c x.id x.b
    have e7 := Mp.put_length_le c x.id x.b
    obtain ⟨i1, i2, i3, i4, i5, i6, i7, i8, i9, i10⟩ := ih h1 (h.root_put hr x.id x.b) (fun y hy => hid y (List.mem_cons_of_mem _ hy)) (by rw [e1, e2]; omega) (by omega) (by omega) (by omega)
    refine ⟨fun j hj => ?_, i2, i3, i4.trans e1, i5.trans e2, i6.trans e3, ?_, ?_, ?_, ?_⟩
    · cases j with
      | zero => exact ⟨h.ok, he, by show T.D.waits.length ≤ _; omega, by show T.puts ≤ _; omega⟩
      | succ j => exact i1 j (by rw [List.length_cons] at hj; omega)
    · rw [hs]; show (putAll (putT T x.id x.b) r).D.waits.length ≤ _; omega
    · rw [List.length_cons]; show (putAll (putT T x.id x.b) r).puts ≤ _; omega
    · rw [hs]; show takes (putC (Mp.put c x.id x.b) r) ≤ _; omega
    · rw [List.length_cons]; show (putC (Mp.put c x.id x.b) r).length ≤ _; omega
/-- what fits takes 62 pages at most -/
theorem bulk_pages (l : List TgDeed) : 240 * pgSum l ≤ bulk l ∧ 500 * l.length ≤ bulk l := by
  induction l with
  | nil => exact ⟨Nat.le_refl _, Nat.le_refl _⟩
  | cons x r ih =>
    have e1 : pgSum (x :: r) = Ex.pages x.b.length + pgSum r := by simp [pgSum]
    have e2 : bulk (x :: r) = 500 + x.b.length + bulk r := by simp [bulk]
    rw [e1, e2, List.length_cons]
    have : 240 * Ex.pages x.b.length ≤ 500 + x.b.length := by unfold Ex.pages; omega
    omega
end Sh
end Go.Proofs.YtpmkegbgbldpnaaGreatDoor
namespace Go.Proofs.YtpmkegbgbldpnaaGreatDoor
open Go Go.RowKit
set_option linter.unusedSimpArgs false
set_option linter.unusedVariables false
namespace Sh
/-- so many ids -/
def cnt : List TgDeed → Nat
  | [] => 0
  | x :: r => (if r.any (fun y => y.id == x.id) then 0 else 1) + cnt r
/-- what stands last under an id -/
def lastB : List TgDeed → Nat → Option (List Nat)
  | [], _ => none
  | x :: r, id => match lastB r id with
    | some b => some b
    | none => if x.id = id then some x.b else none
theorem putC_look (l : List TgDeed) (c : List (Nat × List Nat)) (id : Nat) : Mp.look (putC c l) id = match lastB l id with
    | some b => some b
    | none => Mp.look c id := by
  induction l generalizing c with
  | nil => rfl
  | cons x r ih =>
    show Mp.look (putC (Mp.put c x.id x.b) r) id = _
    rw [ih, lastB]
    cases lastB r id with
    | some b => rfl
    | none =>
      by_cases e : x.id = id
      · subst e; simp [Mp.look_put_same]
      · simp [e, Mp.look_put_other _ (fun h => e h.symm)]
theorem lastB_none (l : List TgDeed) (id : Nat) : lastB l id = none ↔ l.any (fun y => y.id == id) = false := by
  induction l with
  | nil => simp [lastB]
  | cons x r ih =>
    rw [lastB, List.any_cons]
    cases h : lastB r id with
    | some b =>
      have : ¬ (r.any (fun y => y.id == id) = false) := fun e => by rw [ih.2 e] at h; cases h
      simp only [Bool.not_eq_false] at this
      simp [this]
    | none =>
      rw [ih.1 h]
      by_cases e : x.id = id <;> simp [e]
theorem lastB_drop {l : List TgDeed} {i : Nat} {id : Nat} {b : List Nat} (h : lastB (l.drop i) id = some b) : lastB l id = some b := by
  induction i generalizing l with
  | zero => exact h
  | succ i ih =>
    cases l with
    | nil => simpa using h
    | cons x r =>
      have := ih (l := r) h
      rw [lastB, this]
/-- the one that counts -/
theorem look_last {l : List TgDeed} {i : Nat} (hi : i < l.length) (h : (l.drop (i + 1)).any (fun y => y.id == l[i].id) = false) : Mp.look (putC [] l) l[i].id = some l[i].b := by
  have e : lastB (l.drop i) l[i].id = some l[i].b := by
    rw [List.drop_eq_getElem_cons hi, lastB, (lastB_none _ _).2 h]
    simp
  rw [putC_look, lastB_drop e]
theorem cnt_drop {l : List TgDeed} {i : Nat} (hi : i < l.length) : cnt (l.drop i) = (if (l.drop (i + 1)).any (fun y => y.id == l[i].id) then 0 else 1) + cnt (l.drop (i + 1)) := by
  rw [List.drop_eq_getElem_cons hi, cnt]
theorem any_drop {l : List TgDeed} {k : Nat} (hk : k < l.length) (id : Nat) : (l.drop k).any (fun y => y.id == id) = (decide (l[k].id = id) || (l.drop (k + 1)).any (fun y => y.id == id)) := by
  rw [List.drop_eq_getElem_cons hk, List.any_cons]
  rfl
theorem cnt_le (l : List TgDeed) : cnt l ≤ l.length := by
  induction l with
  | nil => exact Nat.le_refl _
  | cons x r ih =>
    rw [cnt, List.length_cons]
    split <;> omega
theorem filter_put {c : List (Nat × List Nat)} (h : Mp.Up c) (id : Nat) (b : List Nat) (q : Nat → Bool) :
    ((Mp.put c id b).filter fun p => q p.1).length = (c.filter fun p => q p.1 && !decide (p.1 = id)).length + if q id then 1 else 0 := by
  induction c with
  | nil => simp only [Mp.put, List.filter_cons, List.filter_nil]; split <;> simp
  | cons p r ih =>
    obtain ⟨k, x⟩ := p
    obtain ⟨h1, h2⟩ := List.pairwise_cons.1 h
    have ih := ih h2
    have rest : (r.filter fun p => q p.1 && !decide (p.1 = k)) = r.filter fun p => q p.1 := List.filter_congr (fun p hp => by
      have := h1 p hp
      simp only at this
      rw [decide_eq_false (by omega)]; simp)
    unfold Mp.put
    split
    · rename_i hk
      have e : ((k, x) :: r).filter (fun p => q p.1 && !decide (p.1 = id)) = ((k, x) :: r).filter (fun p => q p.1) := List.filter_congr (fun p hp => by
        have : p.1 ≠ id := by
          rcases List.mem_cons.1 hp with rfl | hp
          · show k ≠ id; omega
          · have := h1 p hp; simp only at this; omega
        simp [this])
      rw [e, List.filter_cons]
      split <;> simp
    · split
      · rename_i h3 h4
        subst h4
        rw [List.filter_cons, List.filter_cons]
        simp only [decide_true, Bool.not_true, Bool.and_false, Bool.false_eq_true, if_false]
        rw [rest]
        split <;> simp
      · rename_i h3 h4
        rw [List.filter_cons, List.filter_cons]
        have e : decide (k = id) = false := decide_eq_false (by omega)
        simp only [e, Bool.not_false, Bool.and_true]
        split
        · rw [List.length_cons, List.length_cons, ih]; omega
        · exact ih
theorem putC_count {c : List (Nat × List Nat)} (l : List TgDeed) (h : Mp.Up c) : (putC c l).length = (c.filter fun p => !(l.any fun y => y.id == p.1)).length + cnt l := by
  induction l generalizing c with
  | nil => show c.length = (c.filter fun p => true).length + 0; rw [List.filter_eq_self.2 (fun _ _ => rfl)]; rfl
  | cons x r ih =>
    show (putC (Mp.put c x.id x.b) r).length = _
    rw [ih (Mp.up_put h x.id x.b), filter_put h x.id x.b (fun i => !(r.any fun y => y.id == i)), cnt]
    have e : (c.filter fun p => (!(r.any fun y => y.id == p.1)) && !decide (p.1 = x.id)) = c.filter fun p => !((x :: r).any fun y => y.id == p.1) := List.filter_congr (fun p hp => by
      rw [List.any_cons, Bool.not_or, Bool.and_comm]
      congr 1
      by_cases e : p.1 = x.id
      · simp [e]
      · have e2 : ¬ x.id = p.1 := fun h => e h.symm
        simp [e, e2])
    rw [e]
    cases r.any (fun y => y.id == x.id) <;> simp <;> omega
theorem putC_len (l : List TgDeed) : (putC [] l).length = cnt l := by
  rw [putC_count l List.Pairwise.nil]
  simp
theorem putC_append (c : List (Nat × List Nat)) (l m : List TgDeed) : putC c (l ++ m) = putC (putC c l) m := by rw [putC, List.foldl_append]; rfl
end Sh
end Go.Proofs.YtpmkegbgbldpnaaGreatDoor
namespace Go.Proofs.YtpmkegbgbldpnaaGreatDoor
set_option maxRecDepth 100000
open Go Go.RowKit
set_option linter.unusedSimpArgs false
set_option linter.unusedVariables false
namespace Sh
/-- a store of a disk of 1200 sectors, at rest -/
structure Calm (T : Sto) (c : List (Nat × List Nat)) (e n : Nat) : Prop where
  has : Has T c c
  root : Rt.At T.D T.epoch
  ep : T.epoch = e
  tab : T.table.length = Ex.pages (tabN c) + 1
  calm : ∀ p ∈ T.now, p.2.fresh = false
  many : Sh.many T.D = 299
  waits : T.D.waits.length ≤ n
  puts : T.puts = 64
/-- how much room things take -/
structure Small (c : List (Nat × List Nat)) (n m : Nat) : Prop where
  len : c.length ≤ n
  takes : Sh.takes c ≤ m
theorem Small.tab {c : List (Nat × List Nat)} (h : Small c 31 79) : Ex.pages (tabN c) ≤ 3 := by
  have h1 := h.len
  have h2 := h.takes
  unfold Ex.pages tabN
  omega
theorem Small.mono {c : List (Nat × List Nat)} {n m n' m' : Nat} (h : Small c n m) (hn : n ≤ n') (hm : m ≤ m') : Small c n' m' := ⟨Nat.le_trans h.len hn, Nat.le_trans h.takes hm⟩
section
variable {T T' : Sto} {c c' k : List (Nat × List Nat)} {e n : Nat}
theorem Calm.free (h : Calm T c e n) : (Fr.lst T.S).length + (Ex.pages (tabN c) + 1) + takes c = 299 := by
  have := h.has.calm h.calm
  rw [h.tab, h.many] at this
  exact this
/-- a commit -/
theorem calm_com (h : Has T c k) (hr : Rt.At T.D T.epoch) (hm : Sh.many T.D = 299) (hc : Small c 31 79) (hk : Small k 31 79) (ht : T.table.length ≤ 4) (he : T.epoch < 1000) : comE T = 0 ∧ Calm (comT T) c (T.epoch + 1) 0 := by
  have h1 := hc.tab
  have h2 := h.room
  have h3 := hc.takes
  have h4 := hk.takes
  have hf := h.com_full (by omega) (by omega)
  obtain ⟨a1, a2, a3, a4, a5, a6⟩ := h.com_yes hr hf (by omega)
  refine ⟨a1, h.com a1, a2, a3, a4, a5, ?_, Nat.le_of_eq (waits_com T a1), a6⟩
  have e : (comT T).D.seen.length = T.D.seen.length := by
    have hr : Rt.wE (comD2 T) (comR T) = 0 := by have := a1; rw [comE, if_pos hf] at this; exact this
    rw [comT, if_pos hf, if_pos hr]
    show (Rt.wD _ _).seen.length = _
    rw [wD_root_len, comD2_len]
  rw [many_eq e, hm]
theorem Calm.com (h : Calm T c e n) (hc : Small c 31 79) (he : e < 1000) : comE T = 0 ∧ Calm (comT T) c (e + 1) 0 := by
  have h1 := hc.tab
  have := calm_com h.has h.root h.many hc hc (by have := h.tab; omega) (by have := h.ep; omega)
  rw [h.ep] at this
  exact this
/-- beside what is committed, other things -/
structure Busy (T : Sto) (c k : List (Nat × List Nat)) (e n : Nat) : Prop where
  has : Has T c k
  root : Rt.At T.D T.epoch
  ep : T.epoch = e
  tab : T.table.length = Ex.pages (tabN k) + 1
  many : Sh.many T.D = 299
  waits : T.D.waits.length ≤ n
theorem Calm.busy (h : Calm T c e n) : Busy T c c e n := ⟨h.has, h.root, h.ep, h.tab, h.many, h.waits⟩
theorem Busy.undo (h : Busy T c k e n) : Calm (undoT T) k e n := ⟨h.has.undo, h.root, h.ep, h.tab, undo_calm T, h.many, h.waits, rfl⟩
theorem Busy.com (h : Busy T c k e n) (hc : Small c 31 79) (hk : Small k 31 79) (he : e < 1000) : comE T = 0 ∧ Calm (comT T) c (e + 1) 0 := by
  have h1 := hk.tab
  have := calm_com h.has h.root h.many hc hk (by have := h.tab; omega) (by have := h.ep; omega)
  rw [h.ep] at this
  exact this
end
/-- things that have room -/
structure Fits (l : List TgDeed) : Prop where
  len : l.length ≤ 30
  pgs : pgSum l ≤ 62
  each : ∀ x ∈ l, x.id < 4294967296 ∧ x.b.length ≤ 65536
theorem fits_of {l : List TgDeed} (h : bulk l ≤ 15000) (hi : ∀ x ∈ l, x.id < 4294967296) : Fits l := by
  obtain ⟨h1, h2⟩ := bulk_pages l
  refine ⟨by omega, by omega, fun x hx => ⟨hi x hx, ?_⟩⟩
  have : 500 + x.b.length ≤ bulk l := by
    clear h h1 h2 hi
    induction l with
    | nil => cases hx
    | cons y r ih =>
      have e : bulk (y :: r) = 500 + y.b.length + bulk r := by simp [bulk]
      rcases List.mem_cons.1 hx with rfl | hx
      · omega
      · have := ih hx; omega
  omega
theorem small_put {c : List (Nat × List Nat)} {l : List TgDeed} {n m : Nat} (h : Small c n m) : Small (putC c l) (n + l.length) (m + pgSum l) := by
  induction l generalizing c n m with
  | nil => exact h
  | cons x r ih =>
    have e1 : pgSum (x :: r) = Ex.pages x.b.length + pgSum r := by simp [pgSum]
    have h1 : Small (Mp.put c x.id x.b) (n + 1) (m + Ex.pages x.b.length) := ⟨Nat.le_trans (Mp.put_length_le c x.id x.b) (Nat.add_le_add_right h.len 1), Nat.le_trans (takes_put_le c x.id x.b) (Nat.add_le_add_right h.takes _)⟩
    have h2 := ih h1
    rw [e1, List.length_cons]
    exact h2.mono (by omega) (by omega)
theorem small_nil : Small [] 0 0 := ⟨Nat.le_refl _, Nat.le_refl _⟩
theorem Fits.small {l : List TgDeed} (h : Fits l) : Small (putC [] l) 30 62 := (small_put small_nil).mono (by have := h.len; omega) (by have := h.pgs; omega)
theorem new_many : many (newS (Dk.new 1200)).D = 299 := by
  have : (Dk.new 1200).seen.length = 1200 := by simp [Dk.new]
  show many (Dk.new 1200) = 299
  rw [many, this]; rfl
theorem new_has : Has (newS (Dk.new 1200)) [] [] := by
  have : (Dk.new 1200).seen.length = 1200 := by simp [Dk.new]
  exact Has.new (by rw [this]; decide) (by rw [this]; decide)
/-- the first things -/
theorem first_put {l : List TgDeed} (hl : l.length ≤ 31) (hp : pgSum l ≤ 79) (hi : ∀ x ∈ l, x.id < 4294967296 ∧ x.b.length ≤ 65536) :
    AllPut (newS (Dk.new 1200)) l ∧ ∀ T, T = putAll (newS (Dk.new 1200)) l → Has T (putC [] l) [] ∧ T.D.waits.length ≤ 1000 ∧ comE T = 0 ∧ Calm (comT T) (putC [] l) 1 0 := by
  have e0 : (newS (Dk.new 1200)).table.length = 0 := rfl
  have e1 : takes ([] : List (Nat × List Nat)) = 0 := rfl
  have e2 : (newS (Dk.new 1200)).D.waits.length = 0 := rfl
  have e3 : (newS (Dk.new 1200)).puts = 64 := rfl
  obtain ⟨i1, i2, i3, i4, i5, i6, i7, i8, i9, i10⟩ := putAll_is l new_has (root_new (by decide)) hi (by rw [new_many, e0, e1]; omega) (by simp; omega) (by rw [e2]; omega) (by rw [e3]; omega)
  refine ⟨i1, fun T hT => ?_⟩
  subst hT
  have hsm : Small (putC [] l) 31 79 := (small_put small_nil).mono (by omega) (by omega)
  have h5 : (putAll (newS (Dk.new 1200)) l).epoch = 0 := i6
  have := calm_com i2 i3 (i5.trans new_many) hsm (small_nil.mono (by decide) (by decide)) (by rw [i4, e0]; decide) (by rw [h5]; decide)
  rw [h5] at this
  exact ⟨i2, by rw [e2] at i7; omega, this.1, this.2⟩
/-- other things beside what is committed -/
theorem Calm.put {T : Sto} {k : List (Nat × List Nat)} {e n : Nat} (h : Calm T k e n) (hk : Small k 31 79) {l : List TgDeed} (hl : Fits l) (hn : n ≤ 1000) : AllPut T l ∧ Busy (putAll T l) (putC k l) k e (n + 1000) := by
  have h1 := hk.tab
  have h2 := hk.takes
  have h3 := hl.pgs
  have h4 := hl.len
  have h5 := h.waits
  obtain ⟨i1, i2, i3, i4, i5, i6, i7, i8, i9, i10⟩ := putAll_is l h.has h.root hl.each (by rw [h.tab, h.many]; omega) (by have := hk.len; omega) (by omega) (by rw [h.puts]; omega)
  exact ⟨i1, i2, i3, i6.trans h.ep, by rw [i4]; exact h.tab, i5.trans h.many, by omega⟩
end Sh
end Go.Proofs.YtpmkegbgbldpnaaGreatDoor
