/-
  What comes in, opened: things, and how much they are together.
  Layer 18's law: things that are put.
  Layer 18's law: things that are put, plain.
  Layer 18's law: what has asks, plain.
-/
import Derived.Test.YtpmkegbgbldpnaaGreatDoorK02
import Derived.Test.YtpmkegbgbldpnaaGreatDoorK47
import Derived.Test.YtpmkegbgbldpnaaGreatDoorRows
namespace Go.Proofs.YtpmkegbgbldpnaaGreatDoor
open Go.ChangeShapes Go.WideShapes Go.ChangeAt Go.RowKit
set_option linter.unusedSimpArgs false
set_option linter.unusedVariables false
theorem bulk_one {H : Type} (d : DataW H) : 1 ≤ Rows.uptoBulk d := by
  cases d with
  | lit l => cases l <;> simp [Rows.uptoBulk]
  | nil => simp [Rows.uptoBulk]
  | ptr d => simp [Rows.uptoBulk]
  | slice elems spare => simp [Rows.uptoBulk]
  | agg parts => simp [Rows.uptoBulk]
  | iface t d => simp [Rows.uptoBulk]
  | map entries => simp [Rows.uptoBulk]
  | held h => simp [Rows.uptoBulk]
theorem bulk_len {H : Type} (l : List (DataW H)) : l.length ≤ Rows.uptoBulkAll l := by
  induction l with
  | nil => simp [Rows.uptoBulkAll]
  | cons x r ih => have := bulk_one x; simp only [Rows.uptoBulkAll, List.length_cons]; omega
theorem bulk_part {H : Type} {d : DataW H} {l : List (DataW H)} (h : d ∈ l) : Rows.uptoBulk d ≤ Rows.uptoBulkAll l := by
  induction l with
  | nil => cases h
  | cons x r ih =>
    simp only [Rows.uptoBulkAll]
    rcases List.mem_cons.1 h with e | e
    · subst e; omega
    · have := ih e; omega
section
variable {H : Type} {enc : TypeId × Value → H} {w : World}
/-- a slice is as long as its reading is great -/
theorem bulk_slice {t e : TypeId} {fuel : Nat} {cs : List Value} {x : DataW H × List MemPlace} (ht : Tryz.prog.underlying t = some (.slice e)) (h : DataW.trod enc Tryz.prog w 0 (fun _ => true) true fuel t cs = some x)
    {a : Option Addr} {n cap : Nat} (hc : cs = [.slice a n cap]) : n + 1 ≤ Rows.uptoBulk x.1 := by
  subst hc
  rcases DataW.trod_slice ht h with ⟨hh, rfl⟩ | ⟨a', len, cap', elems, rest, m, rfl, hh, rfl, hb, hl, hm, hlen, hel, _, _⟩
  · simp only [List.cons.injEq, Value.slice.injEq, and_true] at hh
    obtain ⟨_, rfl, _⟩ := hh
    simp [Rows.uptoBulk]
  · simp only [List.cons.injEq, Value.slice.injEq, and_true] at hh
    obtain ⟨_, rfl, _⟩ := hh
    have := bulk_len (elems.map (·.1))
    rw [List.length_map] at this
    simp only [Rows.uptoBulk]
    omega
set_option maxRecDepth 100000 in
theorem bulk_thing {fuel : Nat} {cs : List Value} {x : DataW H × List MemPlace} {c o : Nat} {d : TgDeed} (hc : ∀ j, j < 2 → w.cell? ⟨c, o + j, none⟩ = cs[j]?)
    (h : DataW.trod enc Tryz.prog w 0 (fun _ => true) true fuel 49 cs = some x) (hd : TgDeedAt w c o d) : d.b.length + 3 ≤ Rows.uptoBulk x.1 := by
  obtain ⟨xs, n, rfl, rfl, hlen, hxs, hf⟩ := DataW.trod_struct Tryz.underlying49 h
  rw [cells_tg_act] at hlen
  have f1 : DataW.trod enc Tryz.prog w 0 (fun _ => true) true n 22 (List.take (Tryz.prog.cellsOf 22) (List.drop 1 cs)) = xs[1]? := hf 1 _ rfl
  rw [cells_tg_bytes] at f1
  match xs, hxs with
  | [x0, x1], _ =>
  match cs, hlen with
  | [c0, c1], _ =>
    have e1 := (hc 1 (by decide)).symm.trans (hd.cell 1 (by decide))
    have e2 : c1 = .slice d.b_a d.b.length d.b_cap := by simpa [TgDeed.cells] using e1
    have hb := bulk_slice Tryz.underlying22 (show DataW.trod enc Tryz.prog w 0 (fun _ => true) true n 22 [c1] = some x1 from f1) (a := d.b_a) (n := d.b.length) (cap := d.b_cap) (by rw [e2])
    have h0 := bulk_one x0.1
    show _ ≤ Rows.uptoBulk (.agg [x0.1, x1.1])
    simp only [Rows.uptoBulk, Rows.uptoBulkAll]
    omega
theorem bulk_sum {α : Type} : ∀ (l : List α) (m : List (DataW H)) (f : α → Nat), l.length = m.length → (∀ i (h1 : i < l.length) (h2 : i < m.length), f l[i] ≤ Rows.uptoBulk m[i]) → (l.map f).sum ≤ Rows.uptoBulkAll m
  | [], [], f, _, _ => Nat.le_refl _
  | x :: l, y :: m, f, h, hf => by
    simp only [List.map_cons, List.sum_cons, Rows.uptoBulkAll]
    have h0 := hf 0 (Nat.zero_lt_succ _) (Nat.zero_lt_succ _)
    have h1 := bulk_sum l m f (by simpa using h) (fun i h1 h2 => hf (i + 1) (by simpa using h1) (by simpa using h2))
    simp only [List.getElem_cons_zero] at h0
    omega
set_option maxRecDepth 100000 in
/-- a slice of things that came in, with how much it is -/
theorem open_tg_deedsB {fuel : Nat} {cs : List Value} {x : DataW H × List MemPlace}
    (h : DataW.trod enc Tryz.prog w 0 (fun _ => true) true fuel 39 cs = some x) (hz : ∀ n ∈ DataW.weights Tryz.prog 39 x.1, n ≤ reachBytes) :
    ∃ ad n cap acts, cs = [.slice ad n cap] ∧ acts.length = n ∧ IsTgDeeds w ad acts ∧ (acts.map fun d => d.b.length + 3).sum ≤ Rows.uptoBulk x.1 := by
  rcases DataW.trod_slice Tryz.underlying39 h with ⟨rfl, rfl⟩ | ⟨a, len, cap, elems, rest, n, rfl, rfl, rfl, hb, hl, hm, hlen, hel, _, _⟩
  · exact ⟨none, 0, 0, [], rfl, rfl, fun i x hx => by simp at hx, Nat.zero_le _⟩
  · rw [cells_tg_act] at hel
    have each : ∀ i, i < len → ∃ d : TgDeed, (a = ⟨a.block, a.off, none⟩ ∧ TgDeedAt w a.block (a.off + i * 2) d) ∧ ∀ (hi : i < elems.length), d.b.length + 3 ≤ Rows.uptoBulk elems[i].1 := by
      intro i hi
      have h1 := hel i hi
      rw [List.getElem?_eq_getElem (by omega)] at h1
      obtain ⟨cs, hcs, htr⟩ := Option.bind_eq_some_iff.1 h1
      have hsp0 : a = ⟨a.block, a.off, none⟩ := by
        have h0 := hel 0 (by omega)
        rw [List.getElem?_eq_getElem (by omega)] at h0
        obtain ⟨cs0, hcs0, _⟩ := Option.bind_eq_some_iff.1 h0
        have := (cells_elem hcs0 (by decide)).2.1
        simpa [Addr.add] using this
      have hadd : a.add (i * 2) = ⟨a.block, a.off + i * 2, none⟩ := by rw [hsp0, add_plain]
      rw [hadd] at hcs
      obtain ⟨_, _, hcell⟩ := cells_elem hcs (by decide)
      obtain ⟨d, hd⟩ := open_tg_deed hcell htr (fun m hm' => hz m (by
        have hw : ∀ (l : List (DataW H × List MemPlace)) (y : DataW H × List MemPlace), y ∈ l → m ∈ DataW.weights Tryz.prog 49 y.1 → m ∈ DataW.weightsAll Tryz.prog 49 (l.map (·.1)) := by
          intro l
          induction l with
          | nil => intro y hy; cases hy
          | cons z l ih =>
            intro y hy hm2
            simp only [List.map_cons, DataW.weightsAll, List.mem_append]
            rcases List.mem_cons.1 hy with rfl | hy
            · exact Or.inl hm2
            · exact Or.inr (ih y hy hm2)
        simp only [DataW.weights, Tryz.underlying39, List.mem_cons, List.mem_append]
        exact Or.inr (Or.inl (hw elems _ (List.getElem_mem _) hm'))))
      exact ⟨d, ⟨hsp0, hd⟩, fun hi => bulk_thing hcell htr hd⟩
    obtain ⟨acts, hacts, hq⟩ := list_choose len each
    refine ⟨some a, len, cap, acts, rfl, hacts, fun i d hd => ?_, ?_⟩
    · obtain ⟨⟨e, hd'⟩, _⟩ := hq i d hd
      exact ⟨a.block, a.off, by rw [← e], hd'⟩
    · have hs := bulk_sum acts (elems.map (·.1)) (fun d => d.b.length + 3) (by rw [hacts, List.length_map, hlen]) (fun i h1 h2 => by
        have := (hq i acts[i] (List.getElem?_eq_getElem h1)).2 (by rw [List.length_map] at h2; exact h2)
        simpa using this)
      simp only [Rows.uptoBulk]
      omega
end
theorem bulk_of_sum (l : List TgDeed) : Sh.bulk l ≤ 500 * (l.map fun d => d.b.length + 3).sum := by
  induction l with
  | nil => exact Nat.le_refl _
  | cons x r ih =>
    have e : Sh.bulk (x :: r) = 500 + x.b.length + Sh.bulk r := by simp [Sh.bulk]
    rw [e, List.map_cons, List.sum_cons]
    omega
end Go.Proofs.YtpmkegbgbldpnaaGreatDoor
namespace Go.Proofs.YtpmkegbgbldpnaaGreatDoor
open Go Go.RowKit
set_option linter.unusedSimpArgs false
set_option linter.unusedVariables false
namespace Sh
def putAll (T : Sto) (l : List TgDeed) : Sto := l.foldl (fun T x => putT T x.id x.b) T
theorem putAll_snoc {T : Sto} {l : List TgDeed} {k : Nat} (hk : k < l.length) : putAll T (l.take (k + 1)) = putT (putAll T (l.take k)) l[k].id l[k].b := by
  rw [putAll, List.take_add_one, List.getElem?_eq_getElem hk, List.foldl_append]
  rfl
/-- each is put well -/
def AllPut (T : Sto) (l : List TgDeed) : Prop := ∀ j (hj : j < l.length), Ok (putAll T (l.take j)) ∧ putE (putAll T (l.take j)) l[j].id l[j].b.length = 0 ∧ (putAll T (l.take j)).D.waits.length ≤ 90000 ∧ (putAll T (l.take j)).puts ≤ 1000000
end Sh
/-- the cells of things, where they lie -/
def TgRow (w : World) (ad : Option Addr) (l : List TgDeed) : Prop := ∀ i x, l[i]? = some x → ∃ c o, ad = some ⟨c, o, none⟩ ∧ ∀ j, j < 2 → w.cell? ⟨c, o + i * 2 + j, none⟩ = x.cells[j]?
/-- their bytes are old ones -/
def TgGood (w0 : World) (l : List TgDeed) : Prop := ∀ x ∈ l, x.id < 4294967296 ∧ Rd w0 x.b_a (nums .u8 x.b) ∧ x.b.length ≤ x.b_cap ∧ ∀ y ∈ x.b, y < 256
theorem IsTgDeeds.row {w : World} {ad : Option Addr} {l : List TgDeed} (h : IsTgDeeds w ad l) : TgRow w ad l := fun i x hx => by
  obtain ⟨c, o, e, ha⟩ := h i x hx
  exact ⟨c, o, e, ha.cell⟩
theorem IsTgDeeds.good {w : World} {ad : Option Addr} {l : List TgDeed} (h : IsTgDeeds w ad l) : TgGood w l := fun x hx => by
  obtain ⟨i, hi, e⟩ := List.mem_iff_getElem.1 hx
  obtain ⟨c, o, _, ha⟩ := h i x (by rw [List.getElem?_eq_getElem hi, e])
  exact ⟨ha.id_lt, ha.b_rd, ha.b_le, ha.b_each⟩
theorem TgGood.touch {w w' : World} {l : List TgDeed} (h : TgGood w l) (t : Touch No w w') : TgGood w' l := fun x hx => ⟨(h x hx).1, (h x hx).2.1.no t, (h x hx).2.2⟩
/-- wherever a store stands among these, things lie so -/
def TgAny (w0 : World) (s d : Nat) (E : List Part) (a : Option Addr) (l : List TgDeed) : Prop := ∀ w' f' T', Sg true w0 w' s d f' T' E → TgRow w' a l
theorem IsTgDeeds.any {w0 : World} {s d : Nat} {E : List Part} {ad : Option Addr} {l : List TgDeed} (h : IsTgDeeds w0 ad l) : TgAny w0 s d E ad l := fun _ _ _ hs => (h.touch hs.end).row
section
variable {w0 w w' : World} {s d f : Nat} {T : Sh.Sto} {E : List Part}
set_option maxRecDepth 100000 in
set_option maxHeartbeats 4000000 in
theorem shPutAll (h : Sg true w0 w s d f T E) (hTab : TabAt w0) (a : Option Addr) (n c : Nat) (l : List TgDeed) (hl : TgAny w0 s d E a l) (hg : TgGood w0 l) (hn : l.length = n) (hnm : (n : Int) ≤ 1000000000000) (hP : Sh.AllPut T l) :
    Calls Tryz.prog 19 #[.pointer (some ⟨s, 0, none⟩), .slice a n c] w fun e w' => e = .returned (.bool true) ∧ Sg true w0 w' s d f (Sh.putAll T l) E := by
  have H := Lib.hid h
  have HL := Lib.hid hl
  have HG := Lib.hid hg
  have HN := Lib.hid hn
  have HT := Lib.hid hTab
  have HP := Lib.hid hP
  clear h hl hg hn hTab hP
  go_enter Tryz.func19, Tryz.ntmps19
  go_wp2
  go_loopg [5] n (fun g s5 wr => ∃ k : Nat, k + g = n ∧ s5 = .int .i64 ((k : Nat) : Int) ∧ Hid (Sg true w0 wr s d f (Sh.putAll T (l.take k)) E))
  case atStart => exact ⟨0, by omega, rfl, by show Sg _ _ _ _ _ _ _ _; rw [List.take_zero]; exact H.out⟩
  case round =>
    clear H
    obtain ⟨k, hkn, rfl, HS⟩ := hrel
    cases gk with
    | zero =>
      obtain rfl : k = n := by omega
      have e : l.take k = l := List.take_of_length_le (by rw [HN.out]; exact Nat.le_refl _)
      have S1 : Hid (Sg true w0 wr s d f (Sh.putAll T l) E) := by have := HS.out; rw [e] at this; exact this
      clear e HS
      go_wp2
      go_ret
      exact ⟨rfl, S1.out⟩
    | succ g =>
      have hki : (k : Int) < (n : Nat) := by omega
      have hkl : k < l.length := by rw [HN.out]; omega
      have hsn := Sh.putAll_snoc (T := T) hkl
      obtain ⟨hO, hE, hW, hU⟩ := HP.out k hkl
      obtain ⟨x, hx⟩ : ∃ x, l[k] = x := ⟨_, rfl⟩
      rw [hx] at hsn hE
      obtain ⟨g0, o0, ha, hA⟩ := HL.out _ _ _ HS.out k x (by rw [List.getElem?_eq_getElem hkl, hx])
      have hGx := HG.out x (by rw [← hx]; exact List.getElem_mem hkl)
      subst ha
      have hAn : ∀ w' f' T', Sg true w0 w' s d f' T' E → ∀ j, j < 2 → w'.cell? ⟨g0, o0 + k * 2 + j, none⟩ = x.cells[j]? := fun w' f' T' h => by
        obtain ⟨c, o, e, hc⟩ := HL.out _ _ _ h k x (by rw [List.getElem?_eq_getElem hkl, hx])
        simp only [Option.some.injEq, Addr.mk.injEq, and_true] at e
        obtain ⟨rfl, rfl⟩ := e
        exact hc
      have S1 := Lib.hid (Sg.no HS.out (Touch.refl No wr).drew)
      have CP := Lib.hid (Ss.put S1.out hO HT.out x.id hGx.1 x.b_a x.b.length x.b_cap x.b rfl hGx.2.2.1 (by have := (Sh.putE_ok hE).1; omega) (Or.inl hGx.2.1) hGx.2.2.2 hW hU)
      rw [hE, ← hsn] at CP
      have c0 : wr.cell? ⟨g0, o0 + k * 2, none⟩ = some (.int .u32 (x.id : Nat)) := hA 0 (by decide)
      have c1 : wr.cell? ⟨g0, o0 + k * 2 + 1, none⟩ = some (.slice x.b_a x.b.length x.b_cap) := hA 1 (by decide)
      have hS : wr.cell? ⟨g0, o0 + k * 2, none⟩ = some (.int .u32 (x.id : Nat)) ∧ wr.cell? ⟨g0, o0 + k * 2 + 1, none⟩ = some (.slice x.b_a x.b.length x.b_cap) := ⟨c0, c1⟩
      have HA0 := Lib.hid hAn
      clear hO hE hW hU hsn hx hkl hA hAn hGx
      go_wp2_with fail
      go_region_held3 (fun w' => w'.cell? ⟨g0, o0 + k * 2, none⟩ = some (.int .u32 (x.id : Nat)) ∧ w'.cell? ⟨g0, o0 + k * 2 + 1, none⟩ = some (.slice x.b_a x.b.length x.b_cap)) (first | exact hS | exact ⟨HA0.out _ _ _ S1.out 0 (by decide), HA0.out _ _ _ S1.out 1 (by decide)⟩ | exact ⟨HA0.out _ _ _ s5 0 (by decide), HA0.out _ _ _ s5 1 (by decide)⟩) (first
        | (go_at_call 14; refine CP.out.mono ?_; rintro e w5 ⟨rfl, s5⟩))
      all_goals
        have S5 := Lib.hid s5
        clear s5 S1 CP c0 c1 hS HS HA0
        go_wp2
        go_roundg g
        case measure => omega
        case rel => exact ⟨k + 1, by omega, by go_num, S5.out⟩
end
end Go.Proofs.YtpmkegbgbldpnaaGreatDoor
namespace Go.Proofs.YtpmkegbgbldpnaaGreatDoor
set_option maxRecDepth 100000
open Go Go.RowKit
set_option linter.unusedSimpArgs false
set_option linter.unusedVariables false
namespace Sh
def putC (c : List (Nat × List Nat)) (l : List TgDeed) : List (Nat × List Nat) := l.foldl (fun c x => Mp.put c x.id x.b) c
def pgSum (l : List TgDeed) : Nat := (l.map fun x => Ex.pages x.b.length).sum
theorem putT_table (T : Sto) (id : Nat) (b : List Nat) : (putT T id b).table = T.table := by unfold putT; split <;> rfl
theorem putT_many (T : Sto) (id : Nat) (b : List Nat) : many (putT T id b).D = many T.D := by
  unfold putT; split
  · exact many_eq (Ex.wD_len _ _ _ _)
  · rfl
theorem putT_ep (T : Sto) (id : Nat) (b : List Nat) : (putT T id b).epoch = T.epoch := by unfold putT; split <;> rfl
theorem putT_puts (T : Sto) (id : Nat) (b : List Nat) : (putT T id b).puts ≤ T.puts + 1 := by
  unfold putT; split
  · exact Nat.le_refl _
  · omega
theorem putAll_is {T : Sto} {c k : List (Nat × List Nat)} (l : List TgDeed) (h : Has T c k) (hr : Rt.At T.D T.epoch) (hid : ∀ x ∈ l, x.id < 4294967296 ∧ x.b.length ≤ 65536)
    (hroom : T.table.length + takes k + takes c + pgSum l ≤ many T.D) (hcount : c.length + l.length ≤ 64) (hw : T.D.waits.length + 4 * pgSum l ≤ 90000) (hp : T.puts + l.length ≤ 1000000) :
    AllPut T l ∧ Has (putAll T l) (putC c l) k ∧ Rt.At (putAll T l).D (putAll T l).epoch ∧ (putAll T l).table = T.table ∧ many (putAll T l).D = many T.D ∧ (putAll T l).epoch = T.epoch ∧ (putAll T l).D.waits.length ≤ T.D.waits.length + 4 * pgSum l ∧ (putAll T l).puts ≤ T.puts + l.length ∧ takes (putC c l) ≤ takes c + pgSum l ∧ (putC c l).length ≤ c.length + l.length := by
  induction l generalizing T c with
  | nil => exact ⟨fun j hj => absurd hj (Nat.not_lt_zero _), h, hr, rfl, rfl, rfl, Nat.le_add_right _ _, Nat.le_refl _, Nat.le_add_right _ _, Nat.le_refl _⟩
  | cons x r ih =>
    have hx := hid x List.mem_cons_self
    have hs : pgSum (x :: r) = Ex.pages x.b.length + pgSum r := by simp [pgSum]
    rw [hs] at hroom hw
    rw [List.length_cons] at hcount hp
    have hfree := h.room
    have he : putE T x.id x.b.length = 0 := putE_zero hx.2 (Or.inl (by rw [h.len]; omega)) (by omega)
    have h1 := h.put hx.1 he
    have e1 := putT_table T x.id x.b
    have e2 := putT_many T x.id x.b
    have e3 := putT_ep T x.id x.b
    have e4 := waits_put T x.id x.b
    have e5 := putT_puts T x.id x.b
    have e6 := takes_put_le c x.id x.b
    have e7 := Mp.put_length_le c x.id x.b
    obtain ⟨i1, i2, i3, i4, i5, i6, i7, i8, i9, i10⟩ := ih h1 (h.root_put hr x.id x.b) (fun y hy => hid y (List.mem_cons_of_mem _ hy)) (by rw [e1, e2]; omega) (by omega) (by omega) (by omega)
    refine ⟨fun j hj => ?_, i2, i3, i4.trans e1, i5.trans e2, i6.trans e3, ?_, ?_, ?_, ?_⟩
    · cases j with
      | zero => exact ⟨h.ok, he, by show T.D.waits.length ≤ _; omega, by show T.puts ≤ _; omega⟩
      | succ j => exact i1 j (by rw [List.length_cons] at hj; omega)
    · rw [hs]; show (putAll (putT T x.id x.b) r).D.waits.length ≤ _; omega
    · rw [List.length_cons]; show (putAll (putT T x.id x.b) r).puts ≤ _; omega
    · rw [hs]; show takes (putC (Mp.put c x.id x.b) r) ≤ _; omega
    · rw [List.length_cons]; show (putC (Mp.put c x.id x.b) r).length ≤ _; omega
/-- what fits takes 62 pages at most -/
theorem bulk_pages (l : List TgDeed) : 240 * pgSum l ≤ bulk l ∧ 500 * l.length ≤ bulk l := by
  induction l with
  | nil => exact ⟨Nat.le_refl _, Nat.le_refl _⟩
  | cons x r ih =>
    have e1 : pgSum (x :: r) = Ex.pages x.b.length + pgSum r := by simp [pgSum]
    have e2 : bulk (x :: r) = 500 + x.b.length + bulk r := by simp [bulk]
    rw [e1, e2, List.length_cons]
    have : 240 * Ex.pages x.b.length ≤ 500 + x.b.length := by unfold Ex.pages; omega
    omega
end Sh
end Go.Proofs.YtpmkegbgbldpnaaGreatDoor
namespace Go.Proofs.YtpmkegbgbldpnaaGreatDoor
open Go Go.RowKit
set_option linter.unusedSimpArgs false
set_option linter.unusedVariables false
namespace Sh
/-- so many ids -/
def cnt : List TgDeed → Nat
  | [] => 0
  | x :: r => (if r.any (fun y => y.id == x.id) then 0 else 1) + cnt r
/-- what stands last under an id -/
def lastB : List TgDeed → Nat → Option (List Nat)
  | [], _ => none
  | x :: r, id => match lastB r id with
    | some b => some b
    | none => if x.id = id then some x.b else none
theorem putC_look (l : List TgDeed) (c : List (Nat × List Nat)) (id : Nat) : Mp.look (putC c l) id = match lastB l id with
    | some b => some b
    | none => Mp.look c id := by
  induction l generalizing c with
  | nil => rfl
  | cons x r ih =>
    show Mp.look (putC (Mp.put c x.id x.b) r) id = _
    rw [ih, lastB]
    cases lastB r id with
    | some b => rfl
    | none =>
      by_cases e : x.id = id
      · subst e; simp [Mp.look_put_same]
      · simp [e, Mp.look_put_other _ (fun h => e h.symm)]
theorem lastB_none (l : List TgDeed) (id : Nat) : lastB l id = none ↔ l.any (fun y => y.id == id) = false := by
  induction l with
  | nil => simp [lastB]
  | cons x r ih =>
    rw [lastB, List.any_cons]
    cases h : lastB r id with
    | some b =>
      have : ¬ (r.any (fun y => y.id == id) = false) := fun e => by rw [ih.2 e] at h; cases h
      simp only [Bool.not_eq_false] at this
      simp [this]
    | none =>
      rw [ih.1 h]
      by_cases e : x.id = id <;> simp [e]
theorem lastB_drop {l : List TgDeed} {i : Nat} {id : Nat} {b : List Nat} (h : lastB (l.drop i) id = some b) : lastB l id = some b := by
  induction i generalizing l with
  | zero => exact h
  | succ i ih =>
    cases l with
    | nil => simpa using h
    | cons x r =>
      have := ih (l := r) h
      rw [lastB, this]
/-- the one that counts -/
theorem look_last {l : List TgDeed} {i : Nat} (hi : i < l.length) (h : (l.drop (i + 1)).any (fun y => y.id == l[i].id) = false) : Mp.look (putC [] l) l[i].id = some l[i].b := by
  have e : lastB (l.drop i) l[i].id = some l[i].b := by
    rw [List.drop_eq_getElem_cons hi, lastB, (lastB_none _ _).2 h]
    simp
  rw [putC_look, lastB_drop e]
theorem cnt_drop {l : List TgDeed} {i : Nat} (hi : i < l.length) : cnt (l.drop i) = (if (l.drop (i + 1)).any (fun y => y.id == l[i].id) then 0 else 1) + cnt (l.drop (i + 1)) := by
  rw [List.drop_eq_getElem_cons hi, cnt]
theorem any_drop {l : List TgDeed} {k : Nat} (hk : k < l.length) (id : Nat) : (l.drop k).any (fun y => y.id == id) = (decide (l[k].id = id) || (l.drop (k + 1)).any (fun y => y.id == id)) := by
  rw [List.drop_eq_getElem_cons hk, List.any_cons]
  rfl
theorem cnt_le (l : List TgDeed) : cnt l ≤ l.length := by
  induction l with
  | nil => exact Nat.le_refl _
  | cons x r ih =>
    rw [cnt, List.length_cons]
    split <;> omega
theorem putC_up {c : List (Nat × List Nat)} (l : List TgDeed) (h : Mp.Up c) : Mp.Up (putC c l) := by
  induction l generalizing c with
  | nil => exact h
  | cons x r ih => exact ih (Mp.up_put h x.id x.b)
theorem filter_put {c : List (Nat × List Nat)} (h : Mp.Up c) (id : Nat) (b : List Nat) (q : Nat → Bool) :
    ((Mp.put c id b).filter fun p => q p.1).length = (c.filter fun p => q p.1 && !decide (p.1 = id)).length + if q id then 1 else 0 := by
  induction c with
  | nil => simp only [Mp.put, List.filter_cons, List.filter_nil]; split <;> simp
  | cons p r ih =>
    obtain ⟨k, x⟩ := p
    obtain ⟨h1, h2⟩ := List.pairwise_cons.1 h
    have ih := ih h2
    have rest : (r.filter fun p => q p.1 && !decide (p.1 = k)) = r.filter fun p => q p.1 := List.filter_congr (fun p hp => by
      have := h1 p hp
      simp only at this
      rw [decide_eq_false (by omega)]; simp)
    unfold Mp.put
    split
    · rename_i hk
      have e : ((k, x) :: r).filter (fun p => q p.1 && !decide (p.1 = id)) = ((k, x) :: r).filter (fun p => q p.1) := List.filter_congr (fun p hp => by
        have : p.1 ≠ id := by
          rcases List.mem_cons.1 hp with rfl | hp
          · show k ≠ id; omega
          · have := h1 p hp; simp only at this; omega
        simp [this])
      rw [e, List.filter_cons]
      split <;> simp
    · split
      · rename_i h3 h4
        subst h4
        rw [List.filter_cons, List.filter_cons]
        simp only [decide_true, Bool.not_true, Bool.and_false, Bool.false_eq_true, if_false]
        rw [rest]
        split <;> simp
      · rename_i h3 h4
        rw [List.filter_cons, List.filter_cons]
        have e : decide (k = id) = false := decide_eq_false (by omega)
        simp only [e, Bool.not_false, Bool.and_true]
        split
        · rw [List.length_cons, List.length_cons, ih]; omega
        · exact ih
theorem putC_count {c : List (Nat × List Nat)} (l : List TgDeed) (h : Mp.Up c) : (putC c l).length = (c.filter fun p => !(l.any fun y => y.id == p.1)).length + cnt l := by
  induction l generalizing c with
  | nil => show c.length = (c.filter fun p => true).length + 0; rw [List.filter_eq_self.2 (fun _ _ => rfl)]; rfl
  | cons x r ih =>
    show (putC (Mp.put c x.id x.b) r).length = _
    rw [ih (Mp.up_put h x.id x.b), filter_put h x.id x.b (fun i => !(r.any fun y => y.id == i)), cnt]
    have e : (c.filter fun p => (!(r.any fun y => y.id == p.1)) && !decide (p.1 = x.id)) = c.filter fun p => !((x :: r).any fun y => y.id == p.1) := List.filter_congr (fun p hp => by
      rw [List.any_cons, Bool.not_or, Bool.and_comm]
      congr 1
      by_cases e : p.1 = x.id
      · simp [e]
      · have e2 : ¬ x.id = p.1 := fun h => e h.symm
        simp [e, e2])
    rw [e]
    cases r.any (fun y => y.id == x.id) <;> simp <;> omega
theorem putC_len (l : List TgDeed) : (putC [] l).length = cnt l := by
  rw [putC_count l List.Pairwise.nil]
  simp
theorem putC_append (c : List (Nat × List Nat)) (l m : List TgDeed) : putC c (l ++ m) = putC (putC c l) m := by rw [putC, List.foldl_append]; rfl
end Sh
end Go.Proofs.YtpmkegbgbldpnaaGreatDoor
