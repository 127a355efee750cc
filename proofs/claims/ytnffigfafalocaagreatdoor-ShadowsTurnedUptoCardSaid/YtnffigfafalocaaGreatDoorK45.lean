/-
  Acts as they lie in memory (drydock/drydocklaw18.Thing).
  Layer 18's law: things that have room.
  Layer 18's law: things that are put.
  Layer 18's law: things that are put, plain.
  Layer 18's law: what has asks, plain.
  Layer 18's laws: what is put, committed, gone and undone, plain.
-/
import Derived.Test.YtnffigfafalocaaGreatDoorK02
import Derived.Test.YtnffigfafalocaaGreatDoorK44
namespace Go.Proofs.YtnffigfafalocaaGreatDoor
open Go Go.RowKit

/-- an act as it lies in memory -/
structure TgDeed where
  id : Nat
  b : List Nat
  b_a : Option Addr
  b_cap : Nat
def TgDeed.cells (x : TgDeed) : List Value := [.int .u32 (x.id : Nat), .slice x.b_a x.b.length x.b_cap]
structure TgDeedAt (w : World) (c o : Nat) (x : TgDeed) : Prop where
  cell : ∀ j, j < 2 → w.cell? ⟨c, o + j, none⟩ = x.cells[j]?
  id_lt : x.id < 4294967296
  b_rd : Rd w x.b_a (nums .u8 x.b)
  b_le : x.b.length ≤ x.b_cap
  b_max : (x.b_cap : Int) * 1 ≤ 140737488355328
  b_each : ∀ y ∈ x.b, y < 256
theorem TgDeed.some (x : TgDeed) {j : Nat} (hj : j < 2) : ∃ v, x.cells[j]? = Option.some v := ⟨_, List.getElem?_eq_getElem hj⟩
theorem TgDeedAt.touch {w w' : World} {c o : Nat} {x : TgDeed} (h : TgDeedAt w c o x) (t : Touch No w w') : TgDeedAt w' c o x :=
  { h with
    cell := fun j hj => by
      obtain ⟨v, hv⟩ := x.some hj
      have := h.cell j hj
      rw [hv] at this ⊢
      exact t.cell (fun f => f) this
    b_rd := h.b_rd.no t
  }
/-- the slice at ad reads as these acts -/
def IsTgDeeds (w : World) (ad : Option Addr) (acts : List TgDeed) : Prop := ∀ i x, acts[i]? = some x → ∃ c o, ad = some ⟨c, o, none⟩ ∧ TgDeedAt w c (o + i * 2) x
theorem IsTgDeeds.touch {w w' : World} {ad : Option Addr} {acts : List TgDeed} (h : IsTgDeeds w ad acts) (t : Touch No w w') : IsTgDeeds w' ad acts := fun i x hx =>
  let ⟨c, o, e, ha⟩ := h i x hx; ⟨c, o, e, ha.touch t⟩
end Go.Proofs.YtnffigfafalocaaGreatDoor
namespace Go.Proofs.YtnffigfafalocaaGreatDoor
open Go Go.RowKit
set_option linter.unusedSimpArgs false
set_option linter.unusedVariables false
namespace Sh
def bulk (l : List TgDeed) : Nat := (l.map fun x => 500 + x.b.length).sum
theorem bulk_snoc {l : List TgDeed} {k : Nat} (hk : k < l.length) : bulk (l.take (k + 1)) = bulk (l.take k) + (500 + l[k].b.length) := by
  rw [bulk, List.take_add_one, List.getElem?_eq_getElem hk, List.map_append, List.sum_append]
  simp [bulk]
theorem bulk_take (l : List TgDeed) (k : Nat) : bulk (l.take k) ≤ bulk l := by
  conv => rhs; rw [← List.take_append_drop k l]
  rw [bulk, bulk, List.map_append, List.sum_append]
  omega
end Sh
set_option maxRecDepth 100000 in
set_option maxHeartbeats 4000000 in
theorem shFit (w : World) (a : Option Addr) (n c : Nat) (l : List TgDeed) (hl : IsTgDeeds w a l) (hn : l.length = n) (hs : Sh.bulk l ≤ 1000000000000) :
    Calls Tryz.prog 6 #[.slice a n c] w fun e w' => e = .returned (.bool (decide ((Sh.bulk l : Int) ≤ 15000))) ∧ w = w' := by
  have HL := Lib.hid hl
  have HN := Lib.hid hn
  have HS := Lib.hid hs
  have hnb : n ≤ 1000000000000 := by
    have h : l.length ≤ Sh.bulk l := by
      clear hl hn hs HL HN HS
      induction l with
      | nil => exact Nat.zero_le _
      | cons x r ih => simp only [Sh.bulk, List.map_cons, List.sum_cons, List.length_cons] at ih ⊢; omega
    omega
  clear hl hn hs
  go_enter Tryz.func6, Tryz.ntmps6
  go_wp2
  go_loopg [3, 4] n (fun g s3 s4 wr => ∃ k m : Nat, k + g = n ∧ s4 = .int .i64 ((k : Nat) : Int) ∧ s3 = .int .i64 ((m : Nat) : Int) ∧ Hid (Sh.bulk (l.take k) = m) ∧ wr = w)
  case atStart => exact ⟨0, 0, by omega, rfl, rfl, by show Sh.bulk (l.take 0) = 0; rw [List.take_zero]; rfl, rfl⟩
  case round =>
    obtain ⟨k, m, hkn, rfl, rfl, Hm, rfl⟩ := hrel
    have hmb : (m : Int) ≤ 1000000000000 := by have h1 := Hm.out; have h2 := Sh.bulk_take l k; have h3 := HS.out; omega
    cases gk with
    | zero =>
      obtain rfl : k = n := by omega
      have e : l.take k = l := List.take_of_length_le (by rw [HN.out]; exact Nat.le_refl _)
      have Hb : Hid (Sh.bulk l = m) := by have := Hm.out; rw [e] at this; exact this
      clear e
      go_wp2
      go_ret
      exact ⟨by rw [Hb.out]; rfl, rfl⟩
    | succ g =>
      have hki : (k : Int) < (n : Nat) := by omega
      have hkl : k < l.length := by rw [HN.out]; omega
      have hsn := Sh.bulk_snoc hkl
      obtain ⟨x, hx⟩ : ∃ x, l[k] = x := ⟨_, rfl⟩
      rw [hx] at hsn
      obtain ⟨g0, o0, ha, hA⟩ := HL.out k x (by rw [List.getElem?_eq_getElem hkl, hx])
      subst ha
      obtain ⟨id, b, ba, bc⟩ := x
      obtain ⟨nb, hnb2⟩ : ∃ nb, b.length = nb := ⟨_, rfl⟩
      have hc : wr.cell? ⟨g0, o0 + k * 2 + 1, none⟩ = some (.slice ba nb bc) := by have := hA.cell 1 (by decide); rw [this, ← hnb2]; rfl
      have Hm2 : Hid (Sh.bulk (l.take (k + 1)) = m + 500 + nb) := by show _ = _; rw [hsn, Hm.out, ← hnb2]; show _ + (500 + b.length) = _; omega
      have hmb2 : (m : Int) + 500 + nb ≤ 1000000000000 := by have h1 := Hm2.out; have h2 := Sh.bulk_take l (k + 1); have h3 := HS.out; omega
      clear hsn hx hkl hnb2 hA
      go_wp2
      go_roundg g
      case measure => omega
      case rel => exact ⟨k + 1, m + 500 + nb, by omega, by go_num, by go_num, Hm2.out, rfl⟩
end Go.Proofs.YtnffigfafalocaaGreatDoor
namespace Go.Proofs.YtnffigfafalocaaGreatDoor
open Go Go.RowKit
set_option linter.unusedSimpArgs false
set_option linter.unusedVariables false
namespace Sh
def putAll (T : Sto) (l : List TgDeed) : Sto := l.foldl (fun T x => putT T x.id x.b) T
theorem putAll_snoc {T : Sto} {l : List TgDeed} {k : Nat} (hk : k < l.length) : putAll T (l.take (k + 1)) = putT (putAll T (l.take k)) l[k].id l[k].b := by
  rw [putAll, List.take_add_one, List.getElem?_eq_getElem hk, List.foldl_append]
  rfl
/-- each is put well -/
def AllPut (T : Sto) (l : List TgDeed) : Prop := ∀ j (hj : j < l.length), Ok (putAll T (l.take j)) ∧ putE (putAll T (l.take j)) l[j].id l[j].b.length = 0 ∧ (putAll T (l.take j)).D.waits.length ≤ 90000 ∧ (putAll T (l.take j)).puts ≤ 1000000
end Sh
/-- the cells of things, where they lie -/
def TgRow (w : World) (ad : Option Addr) (l : List TgDeed) : Prop := ∀ i x, l[i]? = some x → ∃ c o, ad = some ⟨c, o, none⟩ ∧ ∀ j, j < 2 → w.cell? ⟨c, o + i * 2 + j, none⟩ = x.cells[j]?
/-- their bytes are old ones -/
def TgGood (w0 : World) (l : List TgDeed) : Prop := ∀ x ∈ l, x.id < 4294967296 ∧ Rd w0 x.b_a (nums .u8 x.b) ∧ x.b.length ≤ x.b_cap ∧ ∀ y ∈ x.b, y < 256
theorem IsTgDeeds.row {w : World} {ad : Option Addr} {l : List TgDeed} (h : IsTgDeeds w ad l) : TgRow w ad l := fun i x hx => by
  obtain ⟨c, o, e, ha⟩ := h i x hx
  exact ⟨c, o, e, ha.cell⟩
theorem IsTgDeeds.good {w : World} {ad : Option Addr} {l : List TgDeed} (h : IsTgDeeds w ad l) : TgGood w l := fun x hx => by
  obtain ⟨i, hi, e⟩ := List.mem_iff_getElem.1 hx
  obtain ⟨c, o, _, ha⟩ := h i x (by rw [List.getElem?_eq_getElem hi, e])
  exact ⟨ha.id_lt, ha.b_rd, ha.b_le, ha.b_each⟩
/-- wherever a store stands among these, things lie so -/
def TgAny (w0 : World) (s d : Nat) (E : List Part) (a : Option Addr) (l : List TgDeed) : Prop := ∀ w' f' T', Sg true w0 w' s d f' T' E → TgRow w' a l
theorem IsTgDeeds.any {w0 : World} {s d : Nat} {E : List Part} {ad : Option Addr} {l : List TgDeed} (h : IsTgDeeds w0 ad l) : TgAny w0 s d E ad l := fun _ _ _ hs => (h.touch hs.end).row
section
variable {w0 w w' : World} {s d f : Nat} {T : Sh.Sto} {E : List Part}
set_option maxRecDepth 100000 in
set_option maxHeartbeats 4000000 in
theorem shPutAll (h : Sg true w0 w s d f T E) (hTab : TabAt w0) (a : Option Addr) (n c : Nat) (l : List TgDeed) (hl : TgAny w0 s d E a l) (hg : TgGood w0 l) (hn : l.length = n) (hnm : (n : Int) ≤ 1000000000000) (hP : Sh.AllPut T l) :
    Calls Tryz.prog 8 #[.pointer (some ⟨s, 0, none⟩), .slice a n c] w fun e w' => e = .returned (.bool true) ∧ Sg true w0 w' s d f (Sh.putAll T l) E := by
  have H := Lib.hid h
  have HL := Lib.hid hl
  have HG := Lib.hid hg
  have HN := Lib.hid hn
  have HT := Lib.hid hTab
  have HP := Lib.hid hP
  clear h hl hg hn hTab hP
  go_enter Tryz.func8, Tryz.ntmps8
  go_wp2
  go_loopg [5] n (fun g s5 wr => ∃ k : Nat, k + g = n ∧ s5 = .int .i64 ((k : Nat) : Int) ∧ Hid (Sg true w0 wr s d f (Sh.putAll T (l.take k)) E))
  case atStart => exact ⟨0, by omega, rfl, by show Sg _ _ _ _ _ _ _ _; rw [List.take_zero]; exact H.out⟩
  case round =>
    clear H
    obtain ⟨k, hkn, rfl, HS⟩ := hrel
    cases gk with
    | zero =>
      obtain rfl : k = n := by omega
      have e : l.take k = l := List.take_of_length_le (by rw [HN.out]; exact Nat.le_refl _)
      have S1 : Hid (Sg true w0 wr s d f (Sh.putAll T l) E) := by have := HS.out; rw [e] at this; exact this
      clear e HS
      go_wp2
      go_ret
      exact ⟨rfl, S1.out⟩
    | succ g =>
      have hki : (k : Int) < (n : Nat) := by omega
      have hkl : k < l.length := by rw [HN.out]; omega
      have hsn := Sh.putAll_snoc (T := T) hkl
      obtain ⟨hO, hE, hW, hU⟩ := HP.out k hkl
      obtain ⟨x, hx⟩ : ∃ x, l[k] = x := ⟨_, rfl⟩
      rw [hx] at hsn hE
      obtain ⟨g0, o0, ha, hA⟩ := HL.out _ _ _ HS.out k x (by rw [List.getElem?_eq_getElem hkl, hx])
      have hGx := HG.out x (by rw [← hx]; exact List.getElem_mem hkl)
      subst ha
      have hAn : ∀ w' f' T', Sg true w0 w' s d f' T' E → ∀ j, j < 2 → w'.cell? ⟨g0, o0 + k * 2 + j, none⟩ = x.cells[j]? := fun w' f' T' h => by
        obtain ⟨c, o, e, hc⟩ := HL.out _ _ _ h k x (by rw [List.getElem?_eq_getElem hkl, hx])
        simp only [Option.some.injEq, Addr.mk.injEq, and_true] at e
        obtain ⟨rfl, rfl⟩ := e
        exact hc
      have S1 := Lib.hid (Sg.no HS.out (Touch.refl No wr).drew)
      have CP := Lib.hid (Ss.put S1.out hO HT.out x.id hGx.1 x.b_a x.b.length x.b_cap x.b rfl hGx.2.2.1 (by have := (Sh.putE_ok hE).1; omega) (Or.inl hGx.2.1) hGx.2.2.2 hW hU)
      rw [hE, ← hsn] at CP
      have c0 : wr.cell? ⟨g0, o0 + k * 2, none⟩ = some (.int .u32 (x.id : Nat)) := hA 0 (by decide)
      have c1 : wr.cell? ⟨g0, o0 + k * 2 + 1, none⟩ = some (.slice x.b_a x.b.length x.b_cap) := hA 1 (by decide)
      have hS : wr.cell? ⟨g0, o0 + k * 2, none⟩ = some (.int .u32 (x.id : Nat)) ∧ wr.cell? ⟨g0, o0 + k * 2 + 1, none⟩ = some (.slice x.b_a x.b.length x.b_cap) := ⟨c0, c1⟩
      have HA0 := Lib.hid hAn
      clear hO hE hW hU hsn hx hkl hA hAn hGx
      go_wp2_with fail
      go_region_held3 (fun w' => w'.cell? ⟨g0, o0 + k * 2, none⟩ = some (.int .u32 (x.id : Nat)) ∧ w'.cell? ⟨g0, o0 + k * 2 + 1, none⟩ = some (.slice x.b_a x.b.length x.b_cap)) (first | exact hS | exact ⟨HA0.out _ _ _ S1.out 0 (by decide), HA0.out _ _ _ S1.out 1 (by decide)⟩ | exact ⟨HA0.out _ _ _ s5 0 (by decide), HA0.out _ _ _ s5 1 (by decide)⟩) (first
        | (go_at_call 42; refine CP.out.mono ?_; rintro e w5 ⟨rfl, s5⟩))
      all_goals
        have S5 := Lib.hid s5
        clear s5 S1 CP c0 c1 hS HS HA0
        go_wp2
        go_roundg g
        case measure => omega
        case rel => exact ⟨k + 1, by omega, by go_num, S5.out⟩
end
end Go.Proofs.YtnffigfafalocaaGreatDoor
namespace Go.Proofs.YtnffigfafalocaaGreatDoor
set_option maxRecDepth 100000
open Go Go.RowKit
set_option linter.unusedSimpArgs false
set_option linter.unusedVariables false
namespace Sh
def putC (c : List (Nat × List Nat)) (l : List TgDeed) : List (Nat × List Nat) := l.foldl (fun c x => Mp.put c x.id x.b) c
def pgSum (l : List TgDeed) : Nat := (l.map fun x => Ex.pages x.b.length).sum
theorem putT_table (T : Sto) (id : Nat) (b : List Nat) : (putT T id b).table = T.table := by unfold putT; split <;> rfl
theorem putT_many (T : Sto) (id : Nat) (b : List Nat) : many (putT T id b).D = many T.D := by
  unfold putT; split
  · exact many_eq (Ex.wD_len _ _ _ _)
  · rfl
theorem putT_ep (T : Sto) (id : Nat) (b : List Nat) : (putT T id b).epoch = T.epoch := by unfold putT; split <;> rfl
theorem putT_puts (T : Sto) (id : Nat) (b : List Nat) : (putT T id b).puts ≤ T.puts + 1 := by
  unfold putT; split
  · exact Nat.le_refl _
  · omega
theorem putAll_is {T : Sto} {c k : List (Nat × List Nat)} (l : List TgDeed) (h : Has T c k) (hr : Rt.At T.D T.epoch) (hid : ∀ x ∈ l, x.id < 4294967296 ∧ x.b.length ≤ 65536)
    (hroom : T.table.length + takes k + takes c + pgSum l ≤ many T.D) (hcount : c.length + l.length ≤ 64) (hw : T.D.waits.length + 4 * pgSum l ≤ 90000) (hp : T.puts + l.length ≤ 1000000) :
    AllPut T l ∧ Has (putAll T l) (putC c l) k ∧ Rt.At (putAll T l).D (putAll T l).epoch ∧ (putAll T l).table = T.table ∧ many (putAll T l).D = many T.D ∧ (putAll T l).epoch = T.epoch ∧ (putAll T l).D.waits.length ≤ T.D.waits.length + 4 * pgSum l ∧ (putAll T l).puts ≤ T.puts + l.length ∧ takes (putC c l) ≤ takes c + pgSum l ∧ (putC c l).length ≤ c.length + l.length := by
  induction l generalizing T c with
  | nil => exact ⟨fun j hj => absurd hj (Nat.not_lt_zero _), h, hr, rfl, rfl, rfl, Nat.le_add_right _ _, Nat.le_refl _, Nat.le_add_right _ _, Nat.le_refl _⟩
  | cons x r ih =>
    have hx := hid x List.mem_cons_self
    have hs : pgSum (x :: r) = Ex.pages x.b.length + pgSum r := by simp [pgSum]
    rw [hs] at hroom hw
    rw [List.length_cons] at hcount hp
    have hfree := h.room
    have he : putE T x.id x.b.length = 0 := putE_zero hx.2 (Or.inl (by rw [h.len]; omega)) (by omega)
    have h1 := h.put hx.1 he
    have e1 := putT_table T x.id x.b
    have e2 := putT_many T x.id x.b
    have e3 := putT_ep T x.id x.b
    have e4 := waits_put T x.id x.b
    have e5 := putT_puts T x.id x.b
    have e6 := takes_put_le c x.id x.b
    have e7 := Mp.put_length_le c x.id x.b
    obtain ⟨i1, i2, i3, i4, i5, i6, i7, i8, i9, i10⟩ := ih h1 (h.root_put hr x.id x.b) (fun y hy => hid y (List.mem_cons_of_mem _ hy)) (by rw [e1, e2]; omega) (by omega) (by omega) (by omega)
    refine ⟨fun j hj => ?_, i2, i3, i4.trans e1, i5.trans e2, i6.trans e3, ?_, ?_, ?_, ?_⟩
    · cases j with
      | zero => exact ⟨h.ok, he, by show T.D.waits.length ≤ _; omega, by show T.puts ≤ _; omega⟩
      | succ j => exact i1 j (by rw [List.length_cons] at hj; omega)
    · rw [hs]; show (putAll (putT T x.id x.b) r).D.waits.length ≤ _; omega
    · rw [List.length_cons]; show (putAll (putT T x.id x.b) r).puts ≤ _; omega
    · rw [hs]; show takes (putC (Mp.put c x.id x.b) r) ≤ _; omega
    · rw [List.length_cons]; show (putC (Mp.put c x.id x.b) r).length ≤ _; omega
/-- what fits takes 62 pages at most -/
theorem bulk_pages (l : List TgDeed) : 240 * pgSum l ≤ bulk l ∧ 500 * l.length ≤ bulk l := by
  induction l with
  | nil => exact ⟨Nat.le_refl _, Nat.le_refl _⟩
  | cons x r ih =>
    have e1 : pgSum (x :: r) = Ex.pages x.b.length + pgSum r := by simp [pgSum]
    have e2 : bulk (x :: r) = 500 + x.b.length + bulk r := by simp [bulk]
    rw [e1, e2, List.length_cons]
    have : 240 * Ex.pages x.b.length ≤ 500 + x.b.length := by unfold Ex.pages; omega
    omega
end Sh
end Go.Proofs.YtnffigfafalocaaGreatDoor
namespace Go.Proofs.YtnffigfafalocaaGreatDoor
open Go Go.RowKit
set_option linter.unusedSimpArgs false
set_option linter.unusedVariables false
namespace Sh
/-- so many ids -/
def cnt : List TgDeed → Nat
  | [] => 0
  | x :: r => (if r.any (fun y => y.id == x.id) then 0 else 1) + cnt r
/-- what stands last under an id -/
def lastB : List TgDeed → Nat → Option (List Nat)
  | [], _ => none
  | x :: r, id => match lastB r id with
    | some b => some b
    | none => if x.id = id then some x.b else none
theorem putC_look (l : List TgDeed) (c : List (Nat × List Nat)) (id : Nat) : Mp.look (putC c l) id = match lastB l id with
    | some b => some b
    | none => Mp.look c id := by
  induction l generalizing c with
  | nil => rfl
  | cons x r ih =>
    show Mp.look (putC (Mp.put c x.id x.b) r) id = _
    rw [ih, lastB]
    cases lastB r id with
    | some b => rfl
    | none =>
      by_cases e : x.id = id
      · subst e; simp [Mp.look_put_same]
      · simp [e, Mp.look_put_other _ (fun h => e h.symm)]
theorem lastB_none (l : List TgDeed) (id : Nat) : lastB l id = none ↔ l.any (fun y => y.id == id) = false := by
  induction l with
  | nil => simp [lastB]
  | cons x r ih =>
    rw [lastB, List.any_cons]
    cases h : lastB r id with
    | some b =>
      have : ¬ (r.any (fun y => y.id == id) = false) := fun e => by rw [ih.2 e] at h; cases h
      simp only [Bool.not_eq_false] at this
      simp [this]
    | none =>
      rw [ih.1 h]
      by_cases e : x.id = id <;> simp [e]
theorem lastB_drop {l : List TgDeed} {i : Nat} {id : Nat} {b : List Nat} (h : lastB (l.drop i) id = some b) : lastB l id = some b := by
  induction i generalizing l with
  | zero => exact h
  | succ i ih =>
    cases l with
    | nil => simpa using h
    | cons x r =>
      have := ih (l := r) h
      rw [lastB, this]
/-- the one that counts -/
theorem look_last {l : List TgDeed} {i : Nat} (hi : i < l.length) (h : (l.drop (i + 1)).any (fun y => y.id == l[i].id) = false) : Mp.look (putC [] l) l[i].id = some l[i].b := by
  have e : lastB (l.drop i) l[i].id = some l[i].b := by
    rw [List.drop_eq_getElem_cons hi, lastB, (lastB_none _ _).2 h]
    simp
  rw [putC_look, lastB_drop e]
theorem any_drop {l : List TgDeed} {k : Nat} (hk : k < l.length) (id : Nat) : (l.drop k).any (fun y => y.id == id) = (decide (l[k].id = id) || (l.drop (k + 1)).any (fun y => y.id == id)) := by
  rw [List.drop_eq_getElem_cons hk, List.any_cons]
  rfl
end Sh
end Go.Proofs.YtnffigfafalocaaGreatDoor
namespace Go.Proofs.YtnffigfafalocaaGreatDoor
set_option maxRecDepth 100000
open Go Go.RowKit
set_option linter.unusedSimpArgs false
set_option linter.unusedVariables false
namespace Sh
/-- a store of a disk of 1200 sectors, at rest -/
structure Calm (T : Sto) (c : List (Nat × List Nat)) (e n : Nat) : Prop where
  has : Has T c c
  root : Rt.At T.D T.epoch
  ep : T.epoch = e
  tab : T.table.length = Ex.pages (tabN c) + 1
  calm : ∀ p ∈ T.now, p.2.fresh = false
  many : Sh.many T.D = 299
  waits : T.D.waits.length ≤ n
  puts : T.puts = 64
/-- how much room things take -/
structure Small (c : List (Nat × List Nat)) (n m : Nat) : Prop where
  len : c.length ≤ n
  takes : Sh.takes c ≤ m
theorem Small.tab {c : List (Nat × List Nat)} (h : Small c 31 79) : Ex.pages (tabN c) ≤ 3 := by
  have h1 := h.len
  have h2 := h.takes
  unfold Ex.pages tabN
  omega
theorem Small.mono {c : List (Nat × List Nat)} {n m n' m' : Nat} (h : Small c n m) (hn : n ≤ n') (hm : m ≤ m') : Small c n' m' := ⟨Nat.le_trans h.len hn, Nat.le_trans h.takes hm⟩
section
variable {T T' : Sto} {c c' k : List (Nat × List Nat)} {e n : Nat}
/-- a commit -/
theorem calm_com (h : Has T c k) (hr : Rt.At T.D T.epoch) (hm : Sh.many T.D = 299) (hc : Small c 31 79) (hk : Small k 31 79) (ht : T.table.length ≤ 4) (he : T.epoch < 1000) : comE T = 0 ∧ Calm (comT T) c (T.epoch + 1) 0 := by
  have h1 := hc.tab
  have h2 := h.room
  have h3 := hc.takes
  have h4 := hk.takes
  have hf := h.com_full (by omega) (by omega)
  obtain ⟨a1, a2, a3, a4, a5, a6⟩ := h.com_yes hr hf (by omega)
  refine ⟨a1, h.com a1, a2, a3, a4, a5, ?_, Nat.le_of_eq (waits_com T a1), a6⟩
  have e : (comT T).D.seen.length = T.D.seen.length := by
    have hr : Rt.wE (comD2 T) (comR T) = 0 := by have := a1; rw [comE, if_pos hf] at this; exact this
    rw [comT, if_pos hf, if_pos hr]
    show (Rt.wD _ _).seen.length = _
    rw [wD_root_len, comD2_len]
  rw [many_eq e, hm]
end
/-- things that have room -/
structure Fits (l : List TgDeed) : Prop where
  len : l.length ≤ 30
  pgs : pgSum l ≤ 62
  each : ∀ x ∈ l, x.id < 4294967296 ∧ x.b.length ≤ 65536
theorem fits_of {l : List TgDeed} (h : bulk l ≤ 15000) (hi : ∀ x ∈ l, x.id < 4294967296) : Fits l := by
  obtain ⟨h1, h2⟩ := bulk_pages l
  refine ⟨by omega, by omega, fun x hx => ⟨hi x hx, ?_⟩⟩
  have : 500 + x.b.length ≤ bulk l := by
    clear h h1 h2 hi
    induction l with
    | nil => cases hx
    | cons y r ih =>
      have e : bulk (y :: r) = 500 + y.b.length + bulk r := by simp [bulk]
      rcases List.mem_cons.1 hx with rfl | hx
      · omega
      · have := ih hx; omega
  omega
theorem small_put {c : List (Nat × List Nat)} {l : List TgDeed} {n m : Nat} (h : Small c n m) : Small (putC c l) (n + l.length) (m + pgSum l) := by
  induction l generalizing c n m with
  | nil => exact h
  | cons x r ih =>
    have e1 : pgSum (x :: r) = Ex.pages x.b.length + pgSum r := by simp [pgSum]
    have h1 : Small (Mp.put c x.id x.b) (n + 1) (m + Ex.pages x.b.length) := ⟨Nat.le_trans (Mp.put_length_le c x.id x.b) (Nat.add_le_add_right h.len 1), Nat.le_trans (takes_put_le c x.id x.b) (Nat.add_le_add_right h.takes _)⟩
    have h2 := ih h1
    rw [e1, List.length_cons]
    exact h2.mono (by omega) (by omega)
theorem small_nil : Small [] 0 0 := ⟨Nat.le_refl _, Nat.le_refl _⟩
theorem new_many : many (newS (Dk.new 1200)).D = 299 := by
  have : (Dk.new 1200).seen.length = 1200 := by simp [Dk.new]
  show many (Dk.new 1200) = 299
  rw [many, this]; rfl
theorem new_has : Has (newS (Dk.new 1200)) [] [] := by
  have : (Dk.new 1200).seen.length = 1200 := by simp [Dk.new]
  exact Has.new (by rw [this]; decide) (by rw [this]; decide)
/-- the first things -/
theorem first_put {l : List TgDeed} (hl : l.length ≤ 31) (hp : pgSum l ≤ 79) (hi : ∀ x ∈ l, x.id < 4294967296 ∧ x.b.length ≤ 65536) :
    AllPut (newS (Dk.new 1200)) l ∧ ∀ T, T = putAll (newS (Dk.new 1200)) l → Has T (putC [] l) [] ∧ T.D.waits.length ≤ 1000 ∧ comE T = 0 ∧ Calm (comT T) (putC [] l) 1 0 := by
  have e0 : (newS (Dk.new 1200)).table.length = 0 := rfl
  have e1 : takes ([] : List (Nat × List Nat)) = 0 := rfl
  have e2 : (newS (Dk.new 1200)).D.waits.length = 0 := rfl
  have e3 : (newS (Dk.new 1200)).puts = 64 := rfl
  obtain ⟨i1, i2, i3, i4, i5, i6, i7, i8, i9, i10⟩ := putAll_is l new_has (root_new (by decide)) hi (by rw [new_many, e0, e1]; omega) (by simp; omega) (by rw [e2]; omega) (by rw [e3]; omega)
  refine ⟨i1, fun T hT => ?_⟩
  subst hT
  have hsm : Small (putC [] l) 31 79 := (small_put small_nil).mono (by omega) (by omega)
  have h5 : (putAll (newS (Dk.new 1200)) l).epoch = 0 := i6
  have := calm_com i2 i3 (i5.trans new_many) hsm (small_nil.mono (by decide) (by decide)) (by rw [i4, e0]; decide) (by rw [h5]; decide)
  rw [h5] at this
  exact ⟨i2, by rw [e2] at i7; omega, this.1, this.2⟩
end Sh
end Go.Proofs.YtnffigfafalocaaGreatDoor
